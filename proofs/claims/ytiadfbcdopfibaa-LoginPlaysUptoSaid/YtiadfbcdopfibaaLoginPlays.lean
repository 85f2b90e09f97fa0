/-
  LoginPlays: a session, whatever frames come (printed by wip/gen_login17.py).
-/
import Derived.Test.YtiadfbcdopfibaaLoginPl
namespace Go.Proofs.Ytiadfbcdopfibaa.loginPlays
open Go.RowKit Go.Proofs.Ytiadfbcdopfibaa
set_option linter.unusedVariables false
set_option linter.unusedSimpArgs false
set_option maxRecDepth 100000
def C6 (w0 : World) (B : Nat) (b : Bool) (w : World) : Prop := Below w0.heap.size w0 w ∧ (b = false → w.heap.size = B)
theorem C6.start {w0 : World} {B : Nat} (h : B = w0.heap.size) : C6 w0 B false w0.drew := ⟨(Below.refl _ _).drew, fun _ => by rw [h]; rfl⟩
theorem C6.step {w0 w w' : World} {B : Nat} {b : Bool} (h : C6 w0 B b w) (hb : Below w.heap.size w w' ∧ (w.heap.size = B → w'.heap.size = B)) : Below w.heap.size w w' ∧ C6 w0 B b w' := ⟨hb.1, h.1.trans (hb.1.mono h.1.size), fun e => hb.2 (h.2 e)⟩
theorem C6.call {w0 w w' : World} {B : Nat} (h : C6 w0 B false w) (hb : Below w.heap.size w w') {n : Nat} {bs : List UInt8} (ho : OwB w' B (some ⟨B, 0, none⟩) (n + 2) (n + 2) bs) : C6 w0 B true w' := ⟨h.1.trans (hb.mono h.1.size), fun e => by cases e⟩
/-- The first copy: it stands at B. -/
def Rel6 (B n : Nat) (bs : List UInt8) : Value → World → Prop := fun v w => v = .slice (some ⟨B, 0, none⟩) n (n + 2) ∧ OwB w B (some ⟨B, 0, none⟩) n (n + 2) bs ∧ B < w.heap.size
theorem Rel6.later {B n : Nat} {bs : List UInt8} (v : Value) (w w' : World) (hb : Below w.heap.size w w') (h : Rel6 B n bs v w) : Rel6 B n bs v w' := ⟨h.1, OwB.below h.2.1 hb, Nat.lt_of_lt_of_le h.2.2 hb.size⟩
theorem cp_trim {w : World} {B n : Nat} {A : Option Addr} {bs : List UInt8} (ho : OwB w B A (n + 2) (n + 2) (bs ++ [0xa5, 0x5a])) (hl : bs.length = n) : OwB w B A n (n + 2) bs := by
  have := OwB.trim ho (k := n) (by omega)
  rwa [List.take_left' hl] at this
theorem Rel6.of {w w' : World} {B n : Nat} {bs : List UInt8} (ho : OwB w' B (some ⟨B, 0, none⟩) (n + 2) (n + 2) (bs ++ [0xa5, 0x5a])) (hB : w.heap.size = B) (hb : Below w.heap.size w w') (hl : bs.length = n) : Rel6 B n bs (.slice (some ⟨B, 0, none⟩) n (n + 2)) w' := by
  obtain ⟨g, cur, e, _, hk, _⟩ := ho.open_ (by omega)
  cases e
  exact ⟨rfl, cp_trim ho hl, hk.lt⟩
theorem cp_own {w w' : World} {B n : Nat} {bs : List UInt8} (ho : OwB w' w.heap.size (some ⟨w.heap.size, 0, none⟩) (n + 2) (n + 2) (bs ++ [0xa5, 0x5a])) (hB : B < w.heap.size) (hl : bs.length = n) : RelO (B + 1) n bs (.slice (some ⟨w.heap.size, 0, none⟩) n (n + 2)) w' :=
  ⟨_, _, rfl, Row.base_le (cp_trim ho hl) hB⟩
theorem wrB (B c : Nat) (h : 0 < c) : (wrote (some ⟨B, 0, none⟩) c).toList = [B] := by rw [wrote, if_neg (by omega)]; rfl
set_option maxHeartbeats 40000000 in
theorem walk (cs0 : List Value) (w : World) (R0 : Rds w (.cons (.cons (.int .i64) (.cons (.int .i64) (.cons (.slice (.int .u8) 1 1) (.cons (.slice (.int .u8) 1 1) .nil)))) (.cons (.slice (.cons (.cons (.int .i64) (.cons (.int .i64) (.cons (.int .i64) (.cons (.slice (.int .u8) 1 1) .nil)))) (.cons (.int .i64) (.cons .bool .nil))) 6 64) .nil)) cs0) (U0 : BdsR w 1048576 (.cons (.cons (.int .i64) (.cons (.int .i64) (.cons (.slice (.int .u8) 1 1) (.cons (.slice (.int .u8) 1 1) .nil)))) (.cons (.slice (.cons (.cons (.int .i64) (.cons (.int .i64) (.cons (.int .i64) (.cons (.slice (.int .u8) 1 1) .nil)))) (.cons (.int .i64) (.cons .bool .nil))) 6 64) .nil)) cs0) :
    Calls Try.prog 5 #[.agg cs0.toArray] w fun e w' => e = .returned (.bool true) ∧ Below w.heap.size w w' := by
  obtain ⟨tn, init, At, nt, ct, th, Ao, no, co, ou, A, n, c, ops, e0, ht, ho, hnt, hno, hs⟩ := script R0 U0
  rw [e0]
  clear R0 U0 e0
  have hthl : th.length = nt := ht.len
  have houl : ou.length = no := ho.len
  have hln : ops.length = n := hs.1
  have hn1 : n ≤ 1048576 := hs.2.1
  obtain ⟨gc, hgc⟩ : ∃ g, g = w.heap.size := ⟨_, rfl⟩
  obtain ⟨v, hv⟩ : ∃ v, v = w.alloc (.cells #[.int .i64 tn, .int .i64 init, .slice At nt ct, .slice Ao no co, .slice A n c] 49) := ⟨_, rfl⟩
  have b1 : Blk v gc 49 #[.int .i64 tn, .int .i64 init, .slice At nt ct, .slice Ao no co, .slice A n c] := by rw [hv, hgc]; exact Blk.new _ _ _
  have hbv : Below w.heap.size w v := by rw [hv]; exact below_alloc _ _
  have hz1 : v.heap.size = w.heap.size + 1 := by rw [hv, World.size_alloc]
  have hz := hbv.size
  have HZ1 := Lib.hid hz1
  have HV := Lib.hid hv
  have HB1 := Lib.hid b1
  have HT := Lib.hid ht
  have HO := Lib.hid ho
  have HS := Lib.hid hs
  have HL := Lib.hid hln
  have HTL := Lib.hid hthl
  have HOL := Lib.hid houl
  have HGC := Lib.hid hgc
  clear hv b1 ht ho hs hthl houl hln hz1 hgc
  by_cases hbig : 3000 < nt + no + tot ops
  · go_enter Try.func5, Try.ntmps5
    go_wp2_with (first
      | (go_at_call 11; rw [← HV.out]; refine (alive_c v).mono ?_; rintro e v1 ⟨rfl, hb1⟩; have b11 := HB1.out.below hb1 HB1.out.lt; have hz11 := hb1.size; have HWV1 := Lib.hid (hbv.trans (hb1.mono hz)); have b11w : Blk v1 w.heap.size 49 #[.int .i64 tn, .int .i64 init, .slice At nt ct, .slice Ao no co, .slice A n c] := HGC.out ▸ b11)
      | ((with_reducible show wpList _ _ _ (Oper.mk (some 20) (Op.load 49 (.tmp 1)) _ _ _ _ :: _) _ _); refine wpList_load_whole rfl 49 (.tmp 1) rfl w.heap.size rfl #[.int .i64 tn, .int .i64 init, .slice At nt ct, .slice Ao no co, .slice A n c] aggCase rfl _ b11w ?_)
      | (go_at_call 18; refine (long_c tn init hnt hno (HS.out.below HWV1.out)).mono ?_; rintro e v2 ⟨r, rfl, hr, hb2⟩; rw [decide_eq_true hbig] at hr; subst hr; have HWV2 := Lib.hid (HWV1.out.trans (hb2.mono HWV1.out.size))))
    go_ret
    exact ⟨rfl, HWV2.out⟩
  have htot : tot ops ≤ 3000 := by omega
  have hn300 : n ≤ 300 := by have := tot_ge ops; have := HL.out; omega
  have hBZ := buildSumZ
  have hBS := buildSES
  clear htot
  go_enter Try.func5, Try.ntmps5
  go_wp2_with (first
    | (go_at_call 11; rw [← HV.out]; refine (alive_c v).mono ?_; rintro e v1 ⟨rfl, hb1⟩; have b11 := HB1.out.below hb1 HB1.out.lt; have hz11 := hb1.size; have HWV1 := Lib.hid (hbv.trans (hb1.mono hz)); have b11w : Blk v1 w.heap.size 49 #[.int .i64 tn, .int .i64 init, .slice At nt ct, .slice Ao no co, .slice A n c] := HGC.out ▸ b11)
    | ((with_reducible show wpList _ _ _ (Oper.mk (some 20) (Op.load 49 (.tmp 1)) _ _ _ _ :: _) _ _); refine wpList_load_whole rfl 49 (.tmp 1) rfl w.heap.size rfl #[.int .i64 tn, .int .i64 init, .slice At nt ct, .slice Ao no co, .slice A n c] aggCase rfl _ b11w ?_)
    | (go_at_call 18; refine (long_c tn init hnt hno (HS.out.below HWV1.out)).mono ?_; rintro e v2 ⟨r, rfl, hr, hb2⟩; rw [decide_eq_false hbig] at hr; subst hr; have HWV2 := Lib.hid (HWV1.out.trans (hb2.mono HWV1.out.size)); have hz2 := hb2.size; have b12 := b11.below hb2 b11.lt; have b12w : Blk v2 w.heap.size 49 #[.int .i64 tn, .int .i64 init, .slice At nt ct, .slice Ao no co, .slice A n c] := HGC.out ▸ b12)
    | ((with_reducible show wpList _ _ _ (Oper.mk (some 23) (Op.load 24 _) _ _ _ _ :: _) _ _); refine wpList_load_agg rfl 24 (.tmp 22) rfl w.heap.size 0 rfl #[.int .i64 tn, .int .i64 init, .slice At nt ct, .slice Ao no co] aggSec rfl (fun j q hj => by rw [Nat.zero_add, (b12w).cell]; match j, hj with | 0, h => exact h | 1, h => exact h | 2, h => exact h | 3, h => exact h | j + 4, h => simp at h) ?_))
  obtain ⟨u3, hu3⟩ : ∃ u, u = v2.alloc (.cells #[.int .i64 tn, .int .i64 init, .slice At nt ct, .slice Ao no co] 24) := ⟨_, rfl⟩
  obtain ⟨g3, hg3⟩ : ∃ g, g = v2.heap.size := ⟨_, rfl⟩
  have hb3 : Below v2.heap.size v2 u3 := by rw [hu3]; exact below_alloc _ _
  have hu3z : u3.heap.size = v2.heap.size + 1 := by rw [hu3, World.size_alloc]
  have b33 : Blk u3 g3 24 #[.int .i64 tn, .int .i64 init, .slice At nt ct, .slice Ao no co] := by rw [hu3, hg3]; exact Blk.new _ _ _
  rw [← hu3, ← hg3]
  have HWU3 := Lib.hid (HWV2.out.trans (hb3.mono HWV2.out.size))
  have B13 := Lib.hid (b12.below hb3 b12.lt)
  have b13w : Blk u3 w.heap.size 49 #[.int .i64 tn, .int .i64 init, .slice At nt ct, .slice Ao no co, .slice A n c] := HGC.out ▸ B13.out
  have B13W := Lib.hid b13w
  have B33 := Lib.hid b33
  have hwu3 := HWU3.out.size
  have HG3 := Lib.hid hg3
  have HU3Z := Lib.hid hu3z
  have hg3u : g3 < u3.heap.size := b33.lt
  have hwg3 : w.heap.size ≤ g3 := by have := HWV2.out.size; omega
  have HNE13 := Lib.hid (show w.heap.size ≠ g3 by have := HZ1.out; have := hb1.size; omega)
  obtain ⟨B, hB⟩ : ∃ B, B = u3.heap.size := ⟨_, rfl⟩
  have HBQ := Lib.hid hB
  clear hu3 hg3 b33 b13w b12 b12w b11 b11w hb3 hu3z hB
  refine wp_norm ?_
  refine (wpIn_wide (n := 4)).1 ?_
  refine wpIn_region_relS free_wide rfl 9 (fun W W' => Below W.heap.size W W') (fun W W' => Below W.heap.size W W' ∧ (W.heap.size = B → W'.heap.size = B)) 3 (C6 u3 B)
    [Det (.pointer (some ⟨w.heap.size, 0, none⟩)), Det (.pointer (some ⟨w.heap.size, 2, none⟩)), Det (.slice At nt ct), Rel6 B nt th, Det (.pointer (some ⟨w.heap.size, 0, none⟩)), Det (.pointer (some ⟨w.heap.size, 3, none⟩)), Det (.slice Ao no co), RelO (B + 1) no ou, Det (.pointer (some ⟨g3, 2, none⟩)), Any, Any, Any]
    [[], [(0, some 24)], [(1, some 25)], [(2, some 26)], [], [(4, some 28)], [(5, some 29)], [(6, some 30), (3, some 27)], [], [(8, some 32), (3, some 27)], [], [(10, some 33), (7, some 31)]]
    [[], [0], [0, 1], [0, 1, 2], [], [4], [4, 5], [0, 1, 2, 3, 4, 5, 6], [0, 1, 2, 3], [0, 1, 2, 3, 4, 5, 6, 7, 8], [0, 1, 2, 3, 4, 5, 6, 7, 8, 9], [0, 1, 2, 3, 4, 5, 6, 7, 8, 9, 10]]
    [(0, some 24), (1, some 25), (2, some 26), (3, some 27), (4, some 28), (5, some 29), (6, some 30), (7, some 31), (8, some 32), (9, none), (10, some 33), (11, none)] (by kernel_rfl) (by kernel_rfl) (by kernel_rfl) (fun b W W1 h1 h2 => C6.step h1 h2) (by decide) (show C6 u3 B false u3.drew from C6.start HBQ.out) ?_ ?_ ?_
  · exact (AllMono.cons (Det.later ) (AllMono.cons (Det.later ) (AllMono.cons (Det.later ) (AllMono.cons (Rel6.later ) (AllMono.cons (Det.later ) (AllMono.cons (Det.later ) (AllMono.cons (Det.later ) (AllMono.cons (RelO.later ) (AllMono.cons (Det.later ) (AllMono.cons (Any.later ) (AllMono.cons (Any.later ) (AllMono.cons (Any.later ) AllMono.nil))))))))))))
  · refine AllObS.cons (by decide) ?_ (AllObS.cons (by decide) ?_ (AllObS.cons (by decide) ?_ (AllObS.call ?_ (AllObS.cons (by decide) ?_ (AllObS.cons (by decide) ?_ (AllObS.cons (by decide) ?_ (AllObS.cons (by decide) ?_ (AllObS.cons (by decide) ?_ (AllObS.nil)))))))))
    · intro bF uF W hC' hU aF hF
      have hC : C6 u3 B bF W := hC'
      clear hC'
      simp only [puts] at hF
      subst hF
      go_wp2_with (fail)
      exact ⟨rfl, rfl, ⟨Below.refl _ _, id⟩, rfl⟩
    · intro bF uF W hC' hU aF hF
      have hC : C6 u3 B bF W := hC'
      clear hC'
      have h24 : (Det (.pointer (some ⟨w.heap.size, 0, none⟩))) (uF 0) W := hU.1
      clear hU
      simp only [puts, Act.put, List.setIfInBounds_toArray, List.set_cons_zero, List.set_cons_succ] at hF
      generalize uF 0 = x24 at h24 hF
      obtain rfl : x24 = (.pointer (some ⟨w.heap.size, 0, none⟩)) := h24
      subst hF
      go_wp2_with (fail)
      exact ⟨rfl, rfl, ⟨Below.refl _ _, id⟩, rfl⟩
    · intro bF uF W hC' hU aF hF
      have hC : C6 u3 B bF W := hC'
      clear hC'
      have h25 : (Det (.pointer (some ⟨w.heap.size, 2, none⟩))) (uF 1) W := hU.1
      clear hU
      simp only [puts, Act.put, List.setIfInBounds_toArray, List.set_cons_zero, List.set_cons_succ] at hF
      generalize uF 1 = x25 at h25 hF
      obtain rfl : x25 = (.pointer (some ⟨w.heap.size, 2, none⟩)) := h25
      subst hF
      have d1 : W.cell? ⟨w.heap.size, 2, none⟩ = some (.slice At nt ct) := by rw [(B13W.out.below hC.1 B13W.out.lt).cell]; rfl
      go_wp2_with (fail)
      exact ⟨rfl, rfl, ⟨Below.refl _ _, id⟩, rfl⟩
    · intro uF W hC' hU aF hF
      have hC : C6 u3 B false W := hC'
      clear hC'
      have h26 : (Det (.slice At nt ct)) (uF 2) W := hU.1
      clear hU
      simp only [puts, Act.put, List.setIfInBounds_toArray, List.set_cons_zero, List.set_cons_succ] at hF
      generalize uF 2 = x26 at h26 hF
      obtain rfl : x26 = (.slice At nt ct) := h26
      subst hF
      have hWB : W.heap.size = B := hC.2 rfl
      go_wp2_with ((go_at_call 19; refine (copy_c ((HT.out.below HWU3.out).below (hC.1.mono hwu3)) (Nat.le_trans hwu3 hC.1.size) (by omega)).mono ?_; rintro e W1 ⟨rfl, ho, hb⟩; rw [hWB] at ho; rw [hWB]))
      exact ⟨rfl, rfl, ⟨hb, C6.call hC hb ho⟩, Rel6.of ho hWB hb HTL.out⟩
    · intro bF uF W hC' hU aF hF
      have hC : C6 u3 B bF W := hC'
      clear hC'
      simp only [puts] at hF
      subst hF
      go_wp2_with (fail)
      exact ⟨rfl, rfl, ⟨Below.refl _ _, id⟩, rfl⟩
    · intro bF uF W hC' hU aF hF
      have hC : C6 u3 B bF W := hC'
      clear hC'
      have h28 : (Det (.pointer (some ⟨w.heap.size, 0, none⟩))) (uF 4) W := hU.1
      clear hU
      simp only [puts, Act.put, List.setIfInBounds_toArray, List.set_cons_zero, List.set_cons_succ] at hF
      generalize uF 4 = x28 at h28 hF
      obtain rfl : x28 = (.pointer (some ⟨w.heap.size, 0, none⟩)) := h28
      subst hF
      go_wp2_with (fail)
      exact ⟨rfl, rfl, ⟨Below.refl _ _, id⟩, rfl⟩
    · intro bF uF W hC' hU aF hF
      have hC : C6 u3 B bF W := hC'
      clear hC'
      have h29 : (Det (.pointer (some ⟨w.heap.size, 3, none⟩))) (uF 5) W := hU.1
      clear hU
      simp only [puts, Act.put, List.setIfInBounds_toArray, List.set_cons_zero, List.set_cons_succ] at hF
      generalize uF 5 = x29 at h29 hF
      obtain rfl : x29 = (.pointer (some ⟨w.heap.size, 3, none⟩)) := h29
      subst hF
      have d1 : W.cell? ⟨w.heap.size, 3, none⟩ = some (.slice Ao no co) := by rw [(B13W.out.below hC.1 B13W.out.lt).cell]; rfl
      go_wp2_with (fail)
      exact ⟨rfl, rfl, ⟨Below.refl _ _, id⟩, rfl⟩
    · intro bF uF W hC' hU aF hF
      have hC : C6 u3 B bF W := hC'
      clear hC'
      have h30 : (Det (.slice Ao no co)) (uF 6) W := hU.1
      have h27 : (Rel6 B nt th) (uF 3) W := hU.2.1
      clear hU
      simp only [puts, Act.put, List.setIfInBounds_toArray, List.set_cons_zero, List.set_cons_succ] at hF
      generalize uF 6 = x30 at h30 hF
      generalize uF 3 = x27 at h27 hF
      obtain rfl : x30 = (.slice Ao no co) := h30
      subst hF
      have hWB : B < W.heap.size := h27.2.2
      go_wp2_with ((go_at_call 19; refine (copy_c ((HO.out.below HWU3.out).below (hC.1.mono hwu3)) (Nat.le_trans hwu3 hC.1.size) (by omega)).mono ?_; rintro e W1 ⟨rfl, ho, hb⟩))
      exact ⟨rfl, rfl, ⟨hb, fun e => absurd e (by omega)⟩, cp_own ho hWB HOL.out⟩
    · intro bF uF W hC' hU aF hF
      have hC : C6 u3 B bF W := hC'
      clear hC'
      simp only [puts] at hF
      subst hF
      go_wp2_with (fail)
      exact ⟨rfl, rfl, ⟨Below.refl _ _, id⟩, rfl⟩
  intro uF W4 hC' hU aF hF
  have hCW4 : C6 u3 B true W4 := hC'
  clear hC'
  have h27 : (Rel6 B nt th) (uF 3) W4 := hU.2.2.2.1
  have h31 : (RelO (B + 1) no ou) (uF 7) W4 := hU.2.2.2.2.2.2.2.1
  have h32 : (Det (.pointer (some ⟨g3, 2, none⟩))) (uF 8) W4 := hU.2.2.2.2.2.2.2.2.1
  clear hU
  simp only [List.take_succ_cons, List.take_zero, puts, Act.put, List.setIfInBounds_toArray, List.set_cons_zero, List.set_cons_succ] at hF
  generalize uF 0 = x24 at hF
  generalize uF 1 = x25 at hF
  generalize uF 2 = x26 at hF
  generalize uF 3 = x27 at h27 hF
  generalize uF 4 = x28 at hF
  generalize uF 5 = x29 at hF
  generalize uF 6 = x30 at hF
  generalize uF 7 = x31 at h31 hF
  generalize uF 8 = x32 at h32 hF
  obtain ⟨A31, c31, rfl, s31⟩ := h31
  obtain rfl : x32 = (.pointer (some ⟨g3, 2, none⟩)) := h32
  subst hF
  simp only [List.drop_succ_cons, List.drop_zero]
  have hb34 := hCW4.1
  have hz34 := hb34.size
  have b43 := B33.out.below hb34 B33.out.lt
  have b41 := B13.out.below hb34 B13.out.lt
  have f2 := b43.frozen 2
  have o31 := s31
  obtain ⟨rfl, o27, hBlt⟩ := h27
  have e2 : W4.cell? ⟨g3, 2, none⟩ = some (.slice At nt ct) := by rw [b43.cell]; rfl
  have b43s := b43.set_ 2 (.slice (some ⟨B, 0, none⟩) nt (nt + 2))
  have e3 : (W4.setCell ⟨g3, 2, none⟩ (.slice (some ⟨B, 0, none⟩) nt (nt + 2))).cell? ⟨g3, 3, none⟩ = some (.slice Ao no co) := by rw [b43s.cell]; rfl
  have f3 : (W4.setCell ⟨g3, 2, none⟩ (.slice (some ⟨B, 0, none⟩) nt (nt + 2))).frozen? ⟨g3, 3, none⟩ = false := (b43.set_ 2 _).frozen 3
  refine wpListIn_of free_wide (fun ⟨_, _, h⟩ => h) rfl ?_
  obtain ⟨u5, hu5⟩ : ∃ u, u = (W4.setCell ⟨g3, 2, none⟩ (.slice (some ⟨B, 0, none⟩) nt (nt + 2))).setCell ⟨g3, 3, none⟩ (.slice A31 no c31) := ⟨_, rfl⟩
  have b53 : Blk u5 g3 24 #[.int .i64 tn, .int .i64 init, .slice (some ⟨B, 0, none⟩) nt (nt + 2), .slice A31 no c31] := by rw [hu5]; exact b43s.set_ 3 _
  have hf45 : Fr [g3] W4 u5 := by rw [hu5]; exact (Fr.of1 (grownBy_setCell _ _ 2 _)).trans (Fr.of1 (grownBy_setCell _ _ 3 _))
  have hgB : g3 < B := by rw [HBQ.out]; exact hg3u
  have hz45 := hf45.1
  have O27 := Lib.hid (fr_row o27 hgB hf45)
  have O31 := Lib.hid (fr_row o31 (by omega) hf45)
  have B51 := Lib.hid (hf45.blk b41 (by have := HNE13.out; have := HGC.out; simp; omega))
  have HWU5 := Lib.hid (show Below w.heap.size w u5 by rw [hu5]; exact ((HWU3.out.trans (hb34.mono hwu3)).setCell (p := ⟨g3, 2, none⟩) hwg3 _).setCell (p := ⟨g3, 3, none⟩) hwg3 _)
  have hwu5 := HWU5.out.size
  have HU5 := Lib.hid hu5
  have B53 := Lib.hid b53
  have hBu : B < u5.heap.size := by exact Nat.lt_of_lt_of_le hBlt hz45
  clear hu5 b53 hf45 b41 o27 o31 b43 b43s s31 hb34
  go_wp2_with (first
    | ((with_reducible show wpList _ _ _ (Oper.mk (some 34) (Op.load 24 (.tmp 3)) _ _ _ _ :: _) _ _); rw [← HU5.out]; refine wpList_load_whole rfl 24 (.tmp 3) rfl g3 rfl #[.int .i64 tn, .int .i64 init, .slice (some ⟨B, 0, none⟩) nt (nt + 2), .slice A31 no c31] aggSec rfl _ B53.out ?_)
    | (go_at_call 12; refine (new_c O27.out.sl O31.out.sl (Nat.le_refl _) (by omega) (by omega)).mono ?_; rintro e v6 ⟨gs, rfl, hse6, hb6⟩; have hz6 := hb6.size; have HE6 := Lib.hid hse6; have b63 := B53.out.below hb6 B53.out.lt; have B61 := Lib.hid (B51.out.below hb6 B51.out.lt); have O276 := Lib.hid (OwB.below O27.out hb6); have O316 := Lib.hid (OwB.below O31.out hb6); have e62 : v6.cell? ⟨g3, 2, none⟩ = some (.slice (some ⟨B, 0, none⟩) nt (nt + 2)) := (by rw [b63.cell]; rfl); have hgs6 := hse6.hb; have hgl6 := hse6.lt; have HWU6 := Lib.hid (HWU5.out.trans (hb6.mono hwu5)); clear hse6)
    | ((fail_if_success have hx := q7); go_at_call 20; refine (over_c O276.out (by omega)).mono ?_; rintro e v7 ⟨rfl, q7⟩; have hf7 := Fr.wl q7; have hz7 := q7.size; have hwB := wrB B (nt + 2) (by omega); rw [hwB] at hf7; have b73 := hf7.blk b63 (by simp; omega); have B71 := Lib.hid (hf7.blk B61.out (by have := HGC.out; simp; omega)); have O317 := Lib.hid (fr_row O316.out (Nat.lt_succ_self B) hf7); have HE7 := Lib.hid (HE6.out.low (L := [B]) (by simpa using hBu) hf7); have e73 : v7.cell? ⟨g3, 3, none⟩ = some (.slice A31 no c31) := (by rw [b73.cell]; rfl); have HWU7 := Lib.hid (HWU6.out.grown q7 HWU6.out.size (fun k hk => by have := hwB; rw [hk] at this; simp at this; omega)))
    | (have hprev := q7; go_at_call 20; have hlow := wrote_low O31.out; refine (over_c O317.out (by omega)).mono ?_; rintro e v8 ⟨rfl, q8⟩; have hf8 := Fr.wl q8; have hz8 := q8.size; have B81 := Lib.hid (hf8.blk B71.out (fun hx => by have := (hlow _ hx).1; have := HGC.out; omega)); have HE8 := Lib.hid (HE7.out.low (fun g hx => (hlow g hx).2) hf8); have HWU8 := Lib.hid (HWU7.out.grown q8 HWU7.out.size (fun k hk => by have := (hlow k (by rw [hk]; simp)).1; omega)); have b81w : Blk v8 w.heap.size 49 #[.int .i64 tn, .int .i64 init, .slice At nt ct, .slice Ao no co, .slice A n c] := HGC.out ▸ B81.out; obtain ⟨u9, hu9⟩ : ∃ u, u = v8.alloc (.cells #[.int .i64 tn, .int .i64 init, .slice At nt ct, .slice Ao no co, .slice none 0 0] 55) := ⟨_, rfl⟩; have bm9 : Blk u9 v8.heap.size 55 #[.int .i64 tn, .int .i64 init, .slice At nt ct, .slice Ao no co, .slice none 0 0] := (by rw [hu9]; exact Blk.new _ _ _); have hb9 : Below v8.heap.size v8 u9 := (by rw [hu9]; exact below_alloc _ _); have hz9 : u9.heap.size = v8.heap.size + 1 := (by rw [hu9, World.size_alloc]); have HU9 := Lib.hid hu9; clear hu9; have bs4 := Blk.new u9 34 (arr8 (z8' 32)); have hbs4 := below_alloc u9 (.cells (arr8 (z8' 32)) 34))
    | ((with_reducible show wpList _ _ _ (Oper.mk (some 43) (Op.load 24 _) _ _ _ _ :: _) _ _); refine wpList_load_agg rfl 24 (.tmp 42) rfl w.heap.size 0 rfl #[.int .i64 tn, .int .i64 init, .slice At nt ct, .slice Ao no co] aggSec rfl (fun j q hj => by rw [Nat.zero_add, (b81w).cell]; match j, hj with | 0, h => exact h | 1, h => exact h | 2, h => exact h | 3, h => exact h | j + 4, h => simp at h) ?_)
    | ((with_reducible show wpList _ _ _ (Oper.mk (some 6) (Op.alloc _) _ _ _ _ :: _) _ _); rw [← HU9.out]; refine wpList_alloc_agg rfl 34 rfl (arr8 (z8' 32)) zero44 ?_)
    | ((with_reducible show wpList _ _ _ (Oper.mk none (Op.store 34 (.tmp 6) _) _ _ _ _ :: _) _ _); refine wpList_store8 rfl 34 (.tmp 6) (.tmp 46) rfl u9.heap.size rfl (z8' 32) rfl agg44 (len_z8' 32) _ _ bs4 (by rw [size_arr8, len_z8']) ?_; intro v10 b104 q10 s10; have hb10 := hbs4.grown q10 hbs4.size (fun k hk => by cases hk; exact Nat.le_refl _); have b101w := (b81w.below hb9 b81w.lt).below hb10 (Nat.lt_of_lt_of_le b81w.lt hb9.size); have e104 : v10.cell? ⟨w.heap.size, 4, none⟩ = some (.slice A n c) := (by rw [b101w.cell]; rfl)))
  have hz10 := hb10.size
  have hzs4 := hbs4.size
  obtain ⟨bs0, hbs0⟩ : ∃ b, b = u5.heap.size := ⟨_, rfl⟩
  obtain ⟨g4, hg4⟩ : ∃ g, g = u9.heap.size := ⟨_, rfl⟩
  obtain ⟨gm, hgm⟩ : ∃ g, g = v8.heap.size := ⟨_, rfl⟩
  obtain ⟨b2, hb2e⟩ : ∃ g, g = v10.heap.size := ⟨_, rfl⟩
  have hse10 := (HE8.out.below hb9).below (hb10.mono (by omega) |>.mono (Nat.le_refl _))
  have hbm10 := (bm9.below hb10 (by omega))
  have hbc10 := (B81.out.below hb9 B81.out.lt).below hb10 (Nat.lt_of_lt_of_le B81.out.lt hb9.size)
  have hw10 : Below w.heap.size w v10 := (HWU8.out.trans (hb9.mono HWU8.out.size)).trans (hb10.mono (by have := HWU8.out.size; omega))
  rw [← hbs0] at hse10 hBu hgs6
  rw [← hgm] at hbm10
  rw [← hg4] at b104
  have hg4l := b104.lt
  have HG4 : g4 ≠ gs := by omega
  have HGN : gc ≠ gs := by have := HGC.out; have := HWU5.out.size; have := B51.out.lt; omega
  have HGN4 : gc ≠ g4 := by have := B81.out.lt; omega
  have HGM : gm ≠ gs := by omega
  have HGM4 : gm ≠ g4 := by omega
  have HGMC : gc ≠ gm := by have := B81.out.lt; omega
  have hgsb2 : gs < b2 := by omega
  have hgmb2 : gm < b2 := by omega
  have hg4b2 : g4 < b2 := by omega
  have hgw : w.heap.size ≤ gs := by omega
  have hgw4 : w.heap.size ≤ g4 := by have := HWU8.out.size; omega
  have hgwm : w.heap.size ≤ gm := by have := HWU8.out.size; omega
  have hwb2 : w.heap.size ≤ b2 := by omega
  have hbs2 : bs0 ≤ g4 := by omega
  have HBS0 := Lib.hid hbs0
  have HG44 := Lib.hid hg4
  have HGMM := Lib.hid hgm
  have HB2E := Lib.hid hb2e
  have HE10 := Lib.hid hse10
  have HBM10 := Lib.hid hbm10
  have HBC10 := Lib.hid hbc10
  have HW10 := Lib.hid hw10
  have HB104 := Lib.hid b104
  have HCM10 := Lib.hid (show Cm v10 b2 none 0 0 [] [gs, gm, g4] from ⟨Row.nil _ _ _ _ _, (fun v hv => by cases hv), (fun v hv => by cases hv)⟩)
  rw [show v8.heap.size + 1 = g4 by rw [HG44.out, hz9], ← HGMM.out]
  have hBZ2 := buildFrZ
  clear hse10 hbm10 hbc10 hw10 b104 hbs0 hg4 hgm hb2e b101w e104 hb10 hbs4 bs4 hb9 bm9 b81w b73 b63 e62 e73 e2 e3 f2 f3 hf7 hf8 q7 q8 hprev q10 s10 hwB hlow
  go_loopw [50] (fun v50 wr => ∃ (i : Nat) (s : Sst) (el : List UInt8) (Ac : Option Addr) (Cc : Nat) (cs : List Cv), i ≤ n ∧ v50 = .int .i64 (i : Int) ∧ s.gr ≤ i ∧ (0 ≤ s.nx ∧ s.nx ≤ (i : Int) + 1) ∧ el.length = 32 ∧ (cs.length = i ∧ stf init th ou cs = s ∧ b2 ≤ wr.heap.size) ∧ Se wr bs0 gs init th ou s.st (s.gr : Int) s.ch s.nx ∧ Blk wr g4 34 (arr8 el) ∧ Blk wr gc 49 #[.int .i64 tn, .int .i64 init, .slice At nt ct, .slice Ao no co, .slice A n c] ∧ Blk wr gm 55 #[.int .i64 tn, .int .i64 init, .slice At nt ct, .slice Ao no co, .slice Ac i Cc] ∧ Cm wr b2 Ac i Cc cs [gs, gm, g4] ∧ Below w.heap.size w wr) (fun v50 _ => n - (intOf v50).toNat)
  case atStart => exact ⟨0, ⟨0, 0, 0, z8' 32⟩, z8' 32, none, 0, [], by omega, rfl, Nat.le_refl _, ⟨by decide, by decide⟩, len_z8' 32, ⟨rfl, rfl, Nat.le_of_eq HB2E.out⟩, HE10.out, HB104.out, HBC10.out, HBM10.out, HCM10.out, HW10.out⟩
  case round =>
    obtain ⟨i, s, el, Ac, Cc, cs, hi, rfl, hgr, hnx, hel, ⟨hcl, hstf, hb2r⟩, hse, hb4r, hbc, hbm, hcm, hw⟩ := hrel
    have hzw := hw.size
    have hi0 : (0 : Int) ≤ (i : Int) := by omega
    have HCL := Lib.hid hcl
    have HSTF := Lib.hid hstf
    have HBM := Lib.hid hbm
    have HCM := Lib.hid hcm
    clear hcl hstf hbm hcm
    by_cases hlt : i < n
    · have hil : (i : Int) < (n : Int) := by omega
      have hi300 : (i : Int) ≤ 300 := by omega
      obtain ⟨o, ho⟩ : ∃ o, ops[i]? = some o := ⟨ops[i]'(by rw [HL.out]; exact hlt), List.getElem?_eq_getElem _⟩
      obtain ⟨gb, off, rfl, hgb, hok, hcell⟩ := HS.out.at_ ho
      have hm0 := hok.2
      have HCR := Lib.hid (show ∀ (j : Nat) v, (#[.int .i64 o.k, .int .i64 o.n, .int .i64 o.x, .slice o.A o.m o.c, .int .i64 o.d, .bool o.o] : Array Value)[j]? = some v → wr.cell? ⟨gb, off + i * 6 + j, none⟩ = some v from fun j v hj => (hw.cell (p := ⟨gb, off + i * 6 + j, none⟩) hgb).trans (hcell j v (by simpa [Opv.row] using hj)))
      obtain ⟨u1, hu1⟩ : ∃ u, u = wr.alloc (.cells #[.int .i64 o.k, .int .i64 o.n, .int .i64 o.x, .slice o.A o.m o.c, .int .i64 o.d, .bool o.o] 38) := ⟨_, rfl⟩
      obtain ⟨g6, hg6⟩ : ∃ g, g = wr.heap.size := ⟨_, rfl⟩
      have hbu1 : Below wr.heap.size wr u1 := by rw [hu1]; exact below_alloc _ _
      have hu1z : u1.heap.size = wr.heap.size + 1 := by rw [hu1, World.size_alloc]
      have b16 : Blk u1 g6 38 #[.int .i64 o.k, .int .i64 o.n, .int .i64 o.x, .slice o.A o.m o.c, .int .i64 o.d, .bool o.o] := by rw [hu1, hg6]; exact Blk.new _ _ _
      have hwu1 := hw.trans (hbu1.mono hzw)
      have b1c := hbc.below hbu1 hbc.lt
      have b14 := hb4r.below hbu1 hb4r.lt
      have hgsl := hse.lt
      have hg4l := hb4r.lt
      have hgcl := hbc.lt
      have HSE1 := Lib.hid (hse.below hbu1)
      have hsl1 := hok.1
      have hfar0 : 0 < o.m → ∀ b off, o.A = some ⟨b, off, none⟩ → b < w.heap.size := fun h b off e => by
        obtain ⟨b', off', e', hl, _⟩ := hsl1.2.2.2 (by have := hsl1.2.1; omega)
        rw [e] at e'
        cases e'; exact hl
      obtain ⟨fn, fd, hfr⟩ : ∃ fn fd, frm init th s o.o o.k o.n o.ds el = (fn, fd) := ⟨_, _, rfl⟩
      have hfc := frame_c (w := u1) (B0 := w.heap.size) (tn := tn) (At := At) (Ao := Ao) (no := no) (co := co) o.k o.n o.x o.d init o.o HSE1.out hel ((HT.out.below hwu1).more hwu1.size) hnt ((hsl1.below hwu1).more hwu1.size) hm0 hfar0
      rw [hfr] at hfc
      have HFC := Lib.hid hfc
      have HFR := Lib.hid hfr
      have HU1 := Lib.hid hu1
      have HG6 := Lib.hid hg6
      have HU1Z := Lib.hid hu1z
      have H16 := Lib.hid b16
      have H1C := Lib.hid b1c
      have H14 := Lib.hid b14
      have HWU1 := Lib.hid hwu1
      have HEL := Lib.hid hel
      have HNX := Lib.hid hnx
      have HGR := Lib.hid hgr
      have HW := Lib.hid hw
      have hgsb := hse.hb
      clear hu1 hg6 hu1z b16 b1c b14 hwu1 hbu1 hcell hok hsl1 hfar0 hfc hfr hse hbc hb4r hw hel hnx hgr
      go_wp2_with (first
        | ((with_reducible show wpList _ _ _ (Oper.mk (some 53) (Op.load 38 _) _ _ _ _ :: _) _ _); refine wpList_load_agg rfl 38 (.tmp 52) rfl gb (off + i * 6) rfl #[.int .i64 o.k, .int .i64 o.n, .int .i64 o.x, .slice o.A o.m o.c, .int .i64 o.d, .bool o.o] aggOp rfl HCR.out ?_)
        | ((with_reducible show wpList _ _ _ (Oper.mk (some 54) (Op.load 38 (.tmp 8)) _ _ _ _ :: _) _ _); rw [← HU1.out, ← HG6.out]; refine wpList_load_whole rfl 38 (.tmp 8) rfl g6 rfl #[.int .i64 o.k, .int .i64 o.n, .int .i64 o.x, .slice o.A o.m o.c, .int .i64 o.d, .bool o.o] aggOp rfl _ H16.out ?_)
        | ((with_reducible show wpList _ _ _ (Oper.mk (some 56) (Op.load 24 _) _ _ _ _ :: _) _ _); refine wpList_load_agg rfl 24 (.tmp 55) rfl gc 0 (by rw [HGC.out]; rfl) #[.int .i64 tn, .int .i64 init, .slice At nt ct, .slice Ao no co] aggSec rfl (fun j q hj => by rw [Nat.zero_add, (H1C.out).cell]; match j, hj with | 0, h => exact h | 1, h => exact h | 2, h => exact h | 3, h => exact h | j + 4, h => simp at h) ?_)
        | ((with_reducible show wpList _ _ _ (Oper.mk (some 58) (Op.load 34 (.tmp 6)) _ _ _ _ :: _) _ _); refine wpList_load_whole rfl 34 (.tmp 6) rfl g4 rfl (arr8 el) agg44 (by rw [size_arr8]; exact HEL.out) _ H14.out ?_)
        | (go_at_call 21; refine HFC.out.mono ?_; rintro e v5 ⟨A', m', c', rfl, hd5, hm5, hfar5, hb5⟩))
      obtain ⟨u2, hu2⟩ : ∃ u, u = v5.alloc (.cells #[.int .i64 o.k, .int .i64 fn, .int .i64 o.x, .slice A' m' c'] 36) := ⟨_, rfl⟩
      obtain ⟨g7, hg7⟩ : ∃ g, g = v5.heap.size := ⟨_, rfl⟩
      have hbu2 : Below v5.heap.size v5 u2 := by rw [hu2]; exact below_alloc _ _
      have hz5 := hb5.size
      have hu2z : u2.heap.size = v5.heap.size + 1 := by rw [hu2, World.size_alloc]
      have b27 : Blk u2 g7 36 #[.int .i64 o.k, .int .i64 fn, .int .i64 o.x, .slice A' m' c'] := by rw [hu2, hg7]; exact Blk.new _ _ _
      have hb12 : Below u1.heap.size u1 u2 := hb5.trans (hbu2.mono hz5)
      rw [← hu2, ← hg7]
      have b26 := H16.out.below hb12 H16.out.lt
      have b2c := H1C.out.below hb12 H1C.out.lt
      have b24 := H14.out.below hb12 H14.out.lt
      have HE2 := Lib.hid (HSE1.out.below hb12)
      have HW2 := Lib.hid (HWU1.out.trans (hb12.mono HWU1.out.size))
      have HD2 := Lib.hid ((hd5.below hbu2).more hbu2.size)
      have hz12 := hb12.size
      have HU1Z' := HU1Z.out
      have HG6' := HG6.out
      have hgn6 : g6 ≠ gs := by omega
      have hg67 : g6 < g7 := by have := H16.out.lt; omega
      have hg47 : g4 < g7 := by omega
      have hgc7 : gc < g7 := by omega
      have hzwu : wr.heap.size ≤ u1.heap.size := by omega
      have hgn7 : g7 ≠ gs := by omega
      have hgn46 : g4 ≠ g6 := by omega
      have hgl2 : gs < u2.heap.size := by omega
      have hz2w := HW2.out.size
      have HFARD := Lib.hid (show 0 < m' → ∀ b off, A' = some ⟨b, off, none⟩ → b ≠ gs from fun h b off e => by have := hfar5 h b off e; omega)
      have HFAR2 := Lib.hid (show 0 < m' → ∀ b off, A' = some ⟨b, off, none⟩ → b < w.heap.size ∨ u1.heap.size ≤ b from hfar5)
      clear hu2 hg7 hbu2 hu2z hfar5 hd5 hb5 HG6' HU1Z'
      by_cases h250 : 250 < s.gr
      · have hg250 : (250 : Int) < (s.gr : Int) := by omega
        go_wp2_with (go_at_call 22; refine (greeted_c HE2.out).mono ?_; rintro e w9 ⟨rfl, rfl⟩)
        go_ret
        exact ⟨rfl, HW2.out⟩
      have hg250 : ¬ (250 : Int) < (s.gr : Int) := by omega
      have hbr2 : Below wr.heap.size wr u2 := (show Below wr.heap.size wr u1 by rw [HU1.out]; exact below_alloc _ _).trans (hb12.mono hzwu)
      have HCM2 := Lib.hid (HCM.out.below hbr2)
      have HBM2 := Lib.hid (HBM.out.below hbr2 HBM.out.lt)
      have hb2u2 : b2 ≤ u2.heap.size := Nat.le_trans hb2r hbr2.size
      have hb2u1 : b2 ≤ u1.heap.size := Nat.le_trans hb2r hzwu
      obtain ⟨u3, hu3⟩ : ∃ u, u = u2.alloc (.cells #[.int .i64 o.k, .int .i64 fn, .int .i64 o.x, .slice A' m' c'] 36) := ⟨_, rfl⟩
      obtain ⟨ga, hga⟩ : ∃ g, g = u2.heap.size := ⟨_, rfl⟩
      have hbu3 : Below u2.heap.size u2 u3 := by rw [hu3]; exact below_alloc _ _
      have hu3z : u3.heap.size = u2.heap.size + 1 := by rw [hu3, World.size_alloc]
      have b3a : Blk u3 ga 36 #[.int .i64 o.k, .int .i64 fn, .int .i64 o.x, .slice A' m' c'] := by rw [hu3, hga]; exact Blk.new _ _ _
      have b37 := b27.below hbu3 b27.lt
      have e37 : u3.cell? ⟨g7, 3, none⟩ = some (.slice A' m' c') := by rw [b37.cell]; rfl
      have HU3 := Lib.hid hu3
      have HGA := Lib.hid hga
      have HU3Z := Lib.hid hu3z
      have hbr3 := hbr2.trans (hbu3.mono hbr2.size)
      clear hu3 hga hu3z hb12
      go_wp2_with (first
        | (go_at_call 22; refine (greeted_c HE2.out).mono ?_; rintro e w9 ⟨rfl, rfl⟩)
        | ((with_reducible show wpList _ _ _ (Oper.mk (some 63) (Op.load 36 (.tmp 9)) _ _ _ _ :: _) _ _); refine wpList_load_whole rfl 36 (.tmp 9) rfl g7 rfl #[.int .i64 o.k, .int .i64 fn, .int .i64 o.x, .slice A' m' c'] aggFr rfl _ b27 ?_)
        | ((with_reducible show wpList _ _ _ (Oper.mk (some 64) _ _ _ _ _ :: _) _ _); (fail_if_success have hx := hnorm); rw [← HU3.out, ← HGA.out]; have hnorm := True.intro)
        | (go_at_call 19; refine (copy_c (HD2.out.below hbu3) hbu3.size (by omega)).mono ?_; rintro e v9 ⟨rfl, ho9, hb9⟩; have b9a := b3a.below hb9 b3a.lt; have f9a := b9a.frozen 3; have e9a : v9.cell? ⟨ga, 3, none⟩ = some (.slice A' m' c') := (by rw [b9a.cell]; rfl)))
      obtain ⟨gk, hgk⟩ : ∃ g, g = u3.heap.size := ⟨_, rfl⟩
      rw [← hgk] at ho9 ⊢
      obtain ⟨u4, hu4⟩ : ∃ u, u = v9.setCell ⟨ga, 3, none⟩ (.slice (some ⟨gk, 0, none⟩) m' (m' + 2)) := ⟨_, rfl⟩
      rw [← hu4]
      have hgav : u2.heap.size ≤ ga := Nat.le_of_eq HGA.out.symm
      have hgak : ga < gk := by rw [hgk]; exact b3a.lt
      have hb24 : Below u2.heap.size u2 u4 := by rw [hu4]; exact (hbu3.trans (hb9.mono hbu3.size)).setCell (p := ⟨ga, 3, none⟩) hgav _
      have hf94 : Fr [ga] v9 u4 := by rw [hu4]; exact Fr.of1 (grownBy_setCell _ _ 3 _)
      have b4a : Blk u4 ga 36 #[.int .i64 o.k, .int .i64 fn, .int .i64 o.x, .slice (some ⟨gk, 0, none⟩) m' (m' + 2)] := by rw [hu4]; exact b9a.set_ 3 _
      have b46 := b26.below hb24 b26.lt
      have b4c := b2c.below hb24 b2c.lt
      have b44 := b24.below hb24 b24.lt
      have B47 := Lib.hid (b27.below hb24 b27.lt)
      have HBM4 := Lib.hid (HBM2.out.below hb24 HBM2.out.lt)
      have HCM4 := Lib.hid (HCM2.out.below hb24)
      have HEQ := Lib.hid (HE2.out.below hb24)
      have HWQ := Lib.hid (HW2.out.trans (hb24.mono hz2w))
      have HDF := Lib.hid ((HD2.out.below hb24).more hb24.size)
      have hk4 : OwB u4 gk (some ⟨gk, 0, none⟩) (m' + 2) (m' + 2) (fd ++ [0xa5, 0x5a]) := fr_row ho9 hgak hf94
      have HK4 := Lib.hid hk4
      have hz24 := hb24.size
      have hgl4 : gs < u4.heap.size := by omega
      have hgna : ga ≠ gs := by omega
      have hkns : gs < gk := by omega
      have HD4 := Lib.hid (cp_trim hk4 HD2.out.len).sl
      have hg7l := b27.lt
      clear hu4 b26 b2c b24 b27 b37 e37 HE2 HW2 HD2 HCM2 HBM2 ho9 hb9 b9a f9a e9a b3a hf94 hk4 hbu3 hb24 hnorm hgk
      have HFARD0 := HFARD
      have HEQ0 := HEQ
      have HFARD := Lib.hid (show 0 < m' → ∀ b off, some (Addr.mk gk 0 none) = some ⟨b, off, none⟩ → b ≠ gs from fun _ b off e => by cases e; omega)
      obtain ⟨dd, hdd⟩ : ∃ x, x = drawOf o.d := ⟨_, rfl⟩
      have HDL := Lib.hid (show dd.length = 32 by rw [hdd]; exact len_drawOf o.d)
      have HDD := Lib.hid hdd
      obtain ⟨s1, out, hhn⟩ : ∃ s1 out, hnd init th ou s o.k fn fd dd = (s1, out) := ⟨_, _, rfl⟩
      have hbnd := hnd_b hhn HNX.out.1
      have HHN := Lib.hid hhn
      clear hdd hhn
      refine wp_norm ?_
      refine (wpIn_wide (n := 4)).1 ?_
      refine wpIn_region_relS free_wide rfl 6 (Fr [gs]) (fun W W' => Below W.heap.size W W') 4 (SC bs0 gs init th ou s s1 u4)
        [Det (.pointer (some ⟨gs, 0, none⟩)), Det (.agg #[.int .i64 o.k, .int .i64 fn, .int .i64 o.x, .slice (some ⟨gk, 0, none⟩) m' (m' + 2)]), Det (.agg #[.int .i64 o.k, .int .i64 o.n, .int .i64 o.x, .slice o.A o.m o.c, .int .i64 o.d, .bool o.o]), Det (.agg (arr8 dd)), RelV u4.heap.size out, RelW u4.heap.size 42 #[.slice none 0 0, .bool false, .bool false], Any]
        [[], [], [], [(2, some 70)], [(0, some 68), (1, some 69), (3, some 71)], [], [(5, some 11), (4, some 72)]]
        [[], [], [], [2], [0, 1, 2, 3], [], [0, 1, 2, 3, 4, 5]]
        [(0, some 68), (1, some 69), (2, some 70), (3, some 71), (4, some 72), (5, some 11), (6, none)] (by kernel_rfl) (by kernel_rfl) (by kernel_rfl) (fun b W W1 h1 h2 => h1.step h2) (by decide) (SC.drew HEQ.out) ?_ ?_ ?_
      · exact (AllMono.cons (Det.laterS hgl4) (AllMono.cons (Det.laterS hgl4) (AllMono.cons (Det.laterS hgl4) (AllMono.cons (Det.laterS hgl4) (AllMono.cons (RelV.laterS hgl4) (AllMono.cons (RelW.laterS hgl4) (AllMono.cons (Any.laterS hgl4) AllMono.nil)))))))
      · refine AllObS.cons (by decide) ?_ (AllObS.cons (by decide) ?_ (AllObS.cons (by decide) ?_ (AllObS.cons (by decide) ?_ (AllObS.call ?_ (AllObS.cons (by decide) ?_ (AllObS.nil))))))
        · intro bF uF W hC' hU aF hF
          have hC : SC bs0 gs init th ou s s1 u4 bF W := hC'
          clear hC'
          simp only [puts] at hF
          subst hF
          go_wp2_with (fail)
          exact ⟨rfl, rfl, (Below.refl _ _), rfl⟩
        · intro bF uF W hC' hU aF hF
          have hC : SC bs0 gs init th ou s s1 u4 bF W := hC'
          clear hC'
          simp only [puts] at hF
          subst hF
          go_wp2_with (((with_reducible show wpList _ _ _ (Oper.mk _ (Op.load _ _) _ _ _ _ :: _) _ _); refine wpList_load_whole (by rfl) 36 (.tmp 10) rfl ga rfl #[.int .i64 o.k, .int .i64 fn, .int .i64 o.x, .slice (some ⟨gk, 0, none⟩) m' (m' + 2)] aggFr rfl _ (hC.blk b4a hgna) ?_))
          exact ⟨rfl, rfl, (Below.refl _ _), rfl⟩
        · intro bF uF W hC' hU aF hF
          have hC : SC bs0 gs init th ou s s1 u4 bF W := hC'
          clear hC'
          simp only [puts] at hF
          subst hF
          go_wp2_with (((with_reducible show wpList _ _ _ (Oper.mk _ (Op.load _ _) _ _ _ _ :: _) _ _); refine wpList_load_whole (by rfl) 38 (.tmp 8) rfl g6 rfl #[.int .i64 o.k, .int .i64 o.n, .int .i64 o.x, .slice o.A o.m o.c, .int .i64 o.d, .bool o.o] aggOp rfl _ (hC.blk b46 hgn6) ?_))
          exact ⟨rfl, rfl, (Below.refl _ _), rfl⟩
        · intro bF uF W hC' hU aF hF
          have hC : SC bs0 gs init th ou s s1 u4 bF W := hC'
          clear hC'
          have h70 : (Det (.agg #[.int .i64 o.k, .int .i64 o.n, .int .i64 o.x, .slice o.A o.m o.c, .int .i64 o.d, .bool o.o])) (uF 2) W := hU.1
          clear hU
          simp only [puts, Act.put, List.setIfInBounds_toArray, List.set_cons_zero, List.set_cons_succ] at hF
          generalize uF 2 = x70 at h70 hF
          obtain rfl : x70 = (.agg #[.int .i64 o.k, .int .i64 o.n, .int .i64 o.x, .slice o.A o.m o.c, .int .i64 o.d, .bool o.o]) := h70
          subst hF
          go_wp2_with ((go_at_call 13; refine (draw_c _ _ _ o.d _ _ _ _ _).mono ?_; rintro e W1 ⟨rfl, hb⟩; rw [← HDD.out]))
          exact ⟨rfl, rfl, hb, rfl⟩
        · intro uF W hC' hU aF hF
          have hC : SC bs0 gs init th ou s s1 u4 false W := hC'
          clear hC'
          have h68 : (Det (.pointer (some ⟨gs, 0, none⟩))) (uF 0) W := hU.1
          have h69 : (Det (.agg #[.int .i64 o.k, .int .i64 fn, .int .i64 o.x, .slice (some ⟨gk, 0, none⟩) m' (m' + 2)])) (uF 1) W := hU.2.1
          have h71 : (Det (.agg (arr8 dd))) (uF 3) W := hU.2.2.1
          clear hU
          simp only [puts, Act.put, List.setIfInBounds_toArray, List.set_cons_zero, List.set_cons_succ] at hF
          generalize uF 0 = x68 at h68 hF
          generalize uF 1 = x69 at h69 hF
          generalize uF 3 = x71 at h71 hF
          obtain rfl : x68 = (.pointer (some ⟨gs, 0, none⟩)) := h68
          obtain rfl : x69 = (.agg #[.int .i64 o.k, .int .i64 fn, .int .i64 o.x, .slice (some ⟨gk, 0, none⟩) m' (m' + 2)]) := h69
          obtain rfl : x71 = (.agg (arr8 dd)) := h71
          subst hF
          go_wp2_with ((go_at_call 14; refine (handle_c (s := s) hC.se0 o.k fn o.x HDL.out hC.bw (by have := HGR.out; omega) (by have := HNX.out; omega) (by have := HNX.out; omega) (by have := HTL.out; omega) (by have := HOL.out; omega) ((slN_keep0 HD4.out (Nat.le_refl _) HFARD.out hC.fr).more hC.size) (Nat.le_refl _) HFARD.out).mono ?_; rintro e W1 hh; rw [HHN.out] at hh; obtain ⟨sv, rfl, hv, hh⟩ := hh))
          exact ⟨rfl, rfl, (hC.call2 hh), StepV.base_le hv hC.size⟩
        · intro bF uF W hC' hU aF hF
          have hC : SC bs0 gs init th ou s s1 u4 bF W := hC'
          clear hC'
          simp only [puts] at hF
          subst hF
          go_wp2_with (((with_reducible show wpList _ _ _ (Oper.mk _ (Op.alloc _) _ _ _ _ :: _) _ _); refine wpList_alloc_agg (by rfl) 42 rfl #[.slice none 0 0, .bool false, .bool false] zeroSt ?_))
          exact ⟨rfl, rfl, (below_alloc _ _), ⟨_, rfl, hC.size, Blk.new _ _ _⟩⟩
      intro uF W7 hC' hU aF hF
      have hCW7 : SC bs0 gs init th ou s s1 u4 true W7 := hC'
      clear hC'
      have h72 : (RelV u4.heap.size out) (uF 4) W7 := hU.2.2.2.2.1
      have h11 : (RelW u4.heap.size 42 #[.slice none 0 0, .bool false, .bool false]) (uF 5) W7 := hU.2.2.2.2.2.1
      clear hU
      simp only [List.take_succ_cons, List.take_zero, puts, Act.put, List.setIfInBounds_toArray, List.set_cons_zero, List.set_cons_succ] at hF
      generalize uF 0 = x68 at hF
      generalize uF 1 = x69 at hF
      generalize uF 2 = x70 at hF
      generalize uF 3 = x71 at hF
      generalize uF 4 = x72 at h72 hF
      generalize uF 5 = x11 at h11 hF
      obtain ⟨g11, rfl, z11, b11⟩ := h11
      subst hF
      simp only [List.drop_succ_cons, List.drop_zero]
      refine wpListIn_of free_wide (fun ⟨_, _, h⟩ => h) rfl ?_
      have hsv := h72
      obtain ⟨A9, n9, c9, e9⟩ := StepV.two h72
      subst e9
      refine wpList_store_whole rfl 42 (.tmp 11) (.tmp 72) rfl g11 rfl [.slice A9 n9 c9, .bool out.drew, .bool out.taken] rfl aggSt rfl _ _ b11 rfl (by simp [Value.oneCell']) ?_
      intro w8 b8S q8 s8
      simp only [Act.put, List.setIfInBounds_toArray, List.set_cons_succ, List.set_cons_zero]
      refine wpList_nil ?_
      dsimp only [Exit.then]
      have hz7 := hCW7.size
      obtain ⟨gt, hgt⟩ : ∃ g, g = g11 := ⟨_, rfl⟩
      rw [← hgt] at b8S ⊢
      have hC8 := hCW7.store b11 z11 (show bs0 ≤ u4.heap.size by omega) q8
      have hz8 := hC8.size
      have HE8 := Lib.hid hC8.se1
      have b8a := hC8.blk b4a hgna
      have b86 := hC8.blk b46 hgn6
      have b8c := hC8.blk b4c HGN
      have b84 := hC8.blk b44 HG4
      have HW8 := Lib.hid (HWQ.out.trans (hC8.bel.mono (by have := HWQ.out.size; omega)))
      have hgtn : gt ≠ gs := by omega
      have hg4t : g4 < gt := by omega
      have HWS := HW8.out.size
      have HSV8 := Lib.hid (StepV.store hsv b11 q8)
      clear q8 s8 b4a b46 b4c b44 b11 z11 hgt HEQ h72 hsv
      have hfr8 := hC8.fr
      have B87 := Lib.hid (hC8.blk B47.out hgn7)
      have B86 := Lib.hid b86
      have B8C := Lib.hid b8c
      have B84 := Lib.hid b84
      have B8A := Lib.hid b8a
      have HBM8 := Lib.hid (hC8.blk HBM4.out HGM)
      have HCM8 := Lib.hid (HCM4.out.fr hfr8 (by simp) (HEQ0.out.nw HCM4.out.row))
      have HK8 := Lib.hid (fr_row HK4.out hkns hfr8)
      have HDF8 := Lib.hid ((slN_keep0 HDF.out (Nat.le_refl _) HFARD0.out hfr8).more hfr8.1)
      have hb28 : b2 ≤ w8.heap.size := by omega
      obtain ⟨cv, hcv⟩ : ∃ cv : Cv, cv = ⟨o.k, fn, o.x, A', m', c', fd, dd⟩ := ⟨_, rfl⟩
      have HDRL := Lib.hid (show cv.dr.length = 32 by rw [hcv]; exact HDL.out)
      have HBC := Lib.hid (show ∀ W, (Instr.build 58 #[(0, .agg #[.int .i64 o.k, .int .i64 fn, .int .i64 o.x, .slice A' m' c']), (1, .agg (arr8 dd))]).run Try.prog W = .ok (.agg cv.row.toArray) W by rw [hcv]; exact fun W => buildCame o.k fn o.x A' m' c' dd HDL.out W)
      have HSZ := Lib.hid (show (Try.prog.info? 58).map (·.size) = some 36 by kernel_rfl)
      have HZC := Lib.hid (show (Value.agg zCame).cells.size = 36 from (show zCame.size = 36 by simp [zCame, size_arr8, len_z8']))
      have HWL := Lib.hid (show ∀ g ∈ (wrote Ac Cc).toList, g < w8.heap.size from fun g hg => (wrote_low HCM8.out.row g hg).2)
      have HWL2 := Lib.hid (show ∀ g ∈ (wrote Ac Cc).toList, b2 ≤ g ∧ g < wr.heap.size from wrote_low HCM.out.row)
      have HVO := Lib.hid (show cv.ok w8 by rw [hcv]; exact ⟨HDF8.out, hm5, HDL.out⟩)
      have HVF := Lib.hid (show 0 < cv.m → ∀ b off, cv.A = some ⟨b, off, none⟩ → b ∉ [gs, gm, g4] ∧ b ∉ (wrote Ac Cc).toList by
        rw [hcv]
        intro h b off e
        have := HFAR2.out h b off e
        refine ⟨by simp; omega, fun hx => ?_⟩
        have := HWL2.out b hx
        omega)
      have HST21 := Lib.hid (show C21 w8 b2 gm #[.int .i64 tn, .int .i64 init, .slice At nt ct, .slice Ao no co, .slice Ac i Cc] Ac i Cc cs cv [gs, gm, g4] false w8.drew from ⟨KT.below (Below.refl _ _).drew, Fr.below (Below.refl _ _).drew, (Below.refl _ _).drew, HBM8.out, HVO.out, fun _ => HCM8.out.below (Below.refl _ _).drew⟩)
      have HCV := Lib.hid hcv
      clear hcv b86 b8c b84 b8a HDF HK4
      go_wp2_with fail
      refine wp_norm ?_
      refine (wpIn_wide (n := 4)).1 ?_
      refine wpIn_region_relS free_wide rfl 11 (Le21 b2 Ac Cc (i + 1) (cs ++ [cv]) [gs, gm, g4]) (fun W W' => Below W.heap.size W W') 10 (C21 w8 b2 gm #[.int .i64 tn, .int .i64 init, .slice At nt ct, .slice Ao no co, .slice Ac i Cc] Ac i Cc cs cv [gs, gm, g4])
        [Det (.pointer (some ⟨gm, 0, none⟩)), Det (.pointer (some ⟨gm, 0, none⟩)), Det (.pointer (some ⟨gm, 0, none⟩)), Det (.pointer (some ⟨gm, 4, none⟩)), Det (.slice Ac i Cc), Det (.agg #[.int .i64 o.k, .int .i64 fn, .int .i64 o.x, .slice A' m' c']), Det (.agg #[.int .i64 o.k, .int .i64 o.n, .int .i64 o.x, .slice o.A o.m o.c, .int .i64 o.d, .bool o.o]), Det (.agg (arr8 dd)), Det (.agg cv.row.toArray), RelN w8.heap.size cv, RelR b2 (i + 1) (cs ++ [cv]) [gs, gm, g4], Any, Any, Any]
        [[], [], [(1, some 74)], [(2, some 75)], [(3, some 76)], [], [], [(6, some 79)], [(5, some 78), (7, some 80)], [(8, some 81)], [(4, some 77), (9, some 82)], [(0, some 73)], [(11, some 84)], [(12, some 85), (10, some 83)]]
        [[], [], [1], [1, 2], [1, 2, 3], [], [], [6], [5, 6, 7], [5, 6, 7, 8], [1, 2, 3, 4, 5, 6, 7, 8, 9], [0, 1, 2, 3, 4, 5, 6, 7, 8, 9, 10], [0, 1, 2, 3, 4, 5, 6, 7, 8, 9, 10, 11], [0, 1, 2, 3, 4, 5, 6, 7, 8, 9, 10, 11, 12]]
        [(0, some 73), (1, some 74), (2, some 75), (3, some 76), (4, some 77), (5, some 78), (6, some 79), (7, some 80), (8, some 81), (9, some 82), (10, some 83), (11, some 84), (12, some 85), (13, none)] (by kernel_rfl) (by kernel_rfl) (by kernel_rfl) (fun b W W1 h1 h2 => C21.go hb28 h1 h2) (by decide) HST21.out ?_ ?_ ?_
      · exact (AllMono.cons (Det.later21 HWL.out) (AllMono.cons (Det.later21 HWL.out) (AllMono.cons (Det.later21 HWL.out) (AllMono.cons (Det.later21 HWL.out) (AllMono.cons (Det.later21 HWL.out) (AllMono.cons (Det.later21 HWL.out) (AllMono.cons (Det.later21 HWL.out) (AllMono.cons (Det.later21 HWL.out) (AllMono.cons (Det.later21 HWL.out) (AllMono.cons (RelN.later21 HWL.out) (AllMono.cons (RelR.later21 HWL.out) (AllMono.cons (Any.later21 HWL.out) (AllMono.cons (Any.later21 HWL.out) (AllMono.cons (Any.later21 HWL.out) AllMono.nil))))))))))))))
      · refine AllObS.cons (by decide) ?_ (AllObS.cons (by decide) ?_ (AllObS.cons (by decide) ?_ (AllObS.cons (by decide) ?_ (AllObS.cons (by decide) ?_ (AllObS.cons (by decide) ?_ (AllObS.cons (by decide) ?_ (AllObS.cons (by decide) ?_ (AllObS.cons (by decide) ?_ (AllObS.cons (by decide) ?_ (AllObS.call ?_ (AllObS.nil)))))))))))
        · intro bF uF W hC' hU aF hF
          have hC : C21 w8 b2 gm #[.int .i64 tn, .int .i64 init, .slice At nt ct, .slice Ao no co, .slice Ac i Cc] Ac i Cc cs cv [gs, gm, g4] bF W := hC'
          clear hC'
          simp only [puts] at hF
          subst hF
          go_wp2_with (fail)
          exact ⟨rfl, rfl, (Below.refl _ _), rfl⟩
        · intro bF uF W hC' hU aF hF
          have hC : C21 w8 b2 gm #[.int .i64 tn, .int .i64 init, .slice At nt ct, .slice Ao no co, .slice Ac i Cc] Ac i Cc cs cv [gs, gm, g4] bF W := hC'
          clear hC'
          simp only [puts] at hF
          subst hF
          go_wp2_with (fail)
          exact ⟨rfl, rfl, (Below.refl _ _), rfl⟩
        · intro bF uF W hC' hU aF hF
          have hC : C21 w8 b2 gm #[.int .i64 tn, .int .i64 init, .slice At nt ct, .slice Ao no co, .slice Ac i Cc] Ac i Cc cs cv [gs, gm, g4] bF W := hC'
          clear hC'
          have h74 : (Det (.pointer (some ⟨gm, 0, none⟩))) (uF 1) W := hU.1
          clear hU
          simp only [puts, Act.put, List.setIfInBounds_toArray, List.set_cons_zero, List.set_cons_succ] at hF
          generalize uF 1 = x74 at h74 hF
          obtain rfl : x74 = (.pointer (some ⟨gm, 0, none⟩)) := h74
          subst hF
          go_wp2_with (fail)
          exact ⟨rfl, rfl, (Below.refl _ _), rfl⟩
        · intro bF uF W hC' hU aF hF
          have hC : C21 w8 b2 gm #[.int .i64 tn, .int .i64 init, .slice At nt ct, .slice Ao no co, .slice Ac i Cc] Ac i Cc cs cv [gs, gm, g4] bF W := hC'
          clear hC'
          have h75 : (Det (.pointer (some ⟨gm, 0, none⟩))) (uF 2) W := hU.1
          clear hU
          simp only [puts, Act.put, List.setIfInBounds_toArray, List.set_cons_zero, List.set_cons_succ] at hF
          generalize uF 2 = x75 at h75 hF
          obtain rfl : x75 = (.pointer (some ⟨gm, 0, none⟩)) := h75
          subst hF
          go_wp2_with (fail)
          exact ⟨rfl, rfl, (Below.refl _ _), rfl⟩
        · intro bF uF W hC' hU aF hF
          have hC : C21 w8 b2 gm #[.int .i64 tn, .int .i64 init, .slice At nt ct, .slice Ao no co, .slice Ac i Cc] Ac i Cc cs cv [gs, gm, g4] bF W := hC'
          clear hC'
          have h76 : (Det (.pointer (some ⟨gm, 4, none⟩))) (uF 3) W := hU.1
          clear hU
          simp only [puts, Act.put, List.setIfInBounds_toArray, List.set_cons_zero, List.set_cons_succ] at hF
          generalize uF 3 = x76 at h76 hF
          obtain rfl : x76 = (.pointer (some ⟨gm, 4, none⟩)) := h76
          subst hF
          have d1 : W.cell? ⟨gm, 4, none⟩ = some (.slice Ac i Cc) := by rw [hC.bm.cell]; rfl
          go_wp2_with (fail)
          exact ⟨rfl, rfl, (Below.refl _ _), rfl⟩
        · intro bF uF W hC' hU aF hF
          have hC : C21 w8 b2 gm #[.int .i64 tn, .int .i64 init, .slice At nt ct, .slice Ao no co, .slice Ac i Cc] Ac i Cc cs cv [gs, gm, g4] bF W := hC'
          clear hC'
          simp only [puts] at hF
          subst hF
          go_wp2_with (((with_reducible show wpList _ _ _ (Oper.mk _ (Op.load _ _) _ _ _ _ :: _) _ _); refine wpList_load_whole (by rfl) 36 (.tmp 9) rfl g7 rfl #[.int .i64 o.k, .int .i64 fn, .int .i64 o.x, .slice A' m' c'] aggFr rfl _ (hC.kt.2 _ _ _ B87.out (by decide) (by decide)) ?_))
          exact ⟨rfl, rfl, (Below.refl _ _), rfl⟩
        · intro bF uF W hC' hU aF hF
          have hC : C21 w8 b2 gm #[.int .i64 tn, .int .i64 init, .slice At nt ct, .slice Ao no co, .slice Ac i Cc] Ac i Cc cs cv [gs, gm, g4] bF W := hC'
          clear hC'
          simp only [puts] at hF
          subst hF
          go_wp2_with (((with_reducible show wpList _ _ _ (Oper.mk _ (Op.load _ _) _ _ _ _ :: _) _ _); refine wpList_load_whole (by rfl) 38 (.tmp 8) rfl g6 rfl #[.int .i64 o.k, .int .i64 o.n, .int .i64 o.x, .slice o.A o.m o.c, .int .i64 o.d, .bool o.o] aggOp rfl _ (hC.kt.2 _ _ _ B86.out (by decide) (by decide)) ?_))
          exact ⟨rfl, rfl, (Below.refl _ _), rfl⟩
        · intro bF uF W hC' hU aF hF
          have hC : C21 w8 b2 gm #[.int .i64 tn, .int .i64 init, .slice At nt ct, .slice Ao no co, .slice Ac i Cc] Ac i Cc cs cv [gs, gm, g4] bF W := hC'
          clear hC'
          have h79 : (Det (.agg #[.int .i64 o.k, .int .i64 o.n, .int .i64 o.x, .slice o.A o.m o.c, .int .i64 o.d, .bool o.o])) (uF 6) W := hU.1
          clear hU
          simp only [puts, Act.put, List.setIfInBounds_toArray, List.set_cons_zero, List.set_cons_succ] at hF
          generalize uF 6 = x79 at h79 hF
          obtain rfl : x79 = (.agg #[.int .i64 o.k, .int .i64 o.n, .int .i64 o.x, .slice o.A o.m o.c, .int .i64 o.d, .bool o.o]) := h79
          subst hF
          go_wp2_with ((go_at_call 13; refine (draw_c _ _ _ o.d _ _ _ _ _).mono ?_; rintro e W1 ⟨rfl, hb⟩; rw [← HDD.out]))
          exact ⟨rfl, rfl, hb, rfl⟩
        · intro bF uF W hC' hU aF hF
          have hC : C21 w8 b2 gm #[.int .i64 tn, .int .i64 init, .slice At nt ct, .slice Ao no co, .slice Ac i Cc] Ac i Cc cs cv [gs, gm, g4] bF W := hC'
          clear hC'
          have h78 : (Det (.agg #[.int .i64 o.k, .int .i64 fn, .int .i64 o.x, .slice A' m' c'])) (uF 5) W := hU.1
          have h80 : (Det (.agg (arr8 dd))) (uF 7) W := hU.2.1
          clear hU
          simp only [puts, Act.put, List.setIfInBounds_toArray, List.set_cons_zero, List.set_cons_succ] at hF
          generalize uF 5 = x78 at h78 hF
          generalize uF 7 = x80 at h80 hF
          obtain rfl : x78 = (.agg #[.int .i64 o.k, .int .i64 fn, .int .i64 o.x, .slice A' m' c']) := h78
          obtain rfl : x80 = (.agg (arr8 dd)) := h80
          subst hF
          have hbc := HBC.out
          go_wp2_with (((with_reducible show wpList _ _ _ (Oper.mk _ (Op.build 58 _) _ _ _ _ :: _) _ _); refine wpList_build (by rfl) 58 _ rfl #[(0, .agg #[.int .i64 o.k, .int .i64 fn, .int .i64 o.x, .slice A' m' c']), (1, .agg (arr8 dd))] (by simp only [List.map_toArray, List.map_cons, List.map_nil]; rfl) _ (HBC.out _) ?_))
          exact ⟨rfl, rfl, (Below.refl _ _), rfl⟩
        · intro bF uF W hC' hU aF hF
          have hC : C21 w8 b2 gm #[.int .i64 tn, .int .i64 init, .slice At nt ct, .slice Ao no co, .slice Ac i Cc] Ac i Cc cs cv [gs, gm, g4] bF W := hC'
          clear hC'
          have h81 : (Det (.agg cv.row.toArray)) (uF 8) W := hU.1
          clear hU
          simp only [puts, Act.put, List.setIfInBounds_toArray, List.set_cons_zero, List.set_cons_succ] at hF
          generalize uF 8 = x81 at h81 hF
          obtain rfl : x81 = (.agg cv.row.toArray) := h81
          subst hF
          go_wp2_with (((with_reducible show wpList _ _ _ (Oper.mk _ (Op.buildSlice _ _ _) _ _ _ _ :: _) _ _); refine wpList_one_row (by rfl) 53 (.tmp 81) rfl Try.underlying53 HSZ.out zeroCame HZC.out (by omega) (by omega) cv.row.toArray rfl (came_row HDRL.out).1 ?_))
          exact ⟨rfl, rfl, (below_alloc _ _), ⟨_, rfl, hC.size, Blk.new _ _ _⟩⟩
        · intro uF W hC' hU aF hF
          have hC : C21 w8 b2 gm #[.int .i64 tn, .int .i64 init, .slice At nt ct, .slice Ao no co, .slice Ac i Cc] Ac i Cc cs cv [gs, gm, g4] false W := hC'
          clear hC'
          have h77 : (Det (.slice Ac i Cc)) (uF 4) W := hU.1
          have h82 : (RelN w8.heap.size cv) (uF 9) W := hU.2.1
          clear hU
          simp only [puts, Act.put, List.setIfInBounds_toArray, List.set_cons_zero, List.set_cons_succ] at hF
          generalize uF 4 = x77 at h77 hF
          generalize uF 9 = x82 at h82 hF
          obtain rfl : x77 = (.slice Ac i Cc) := h77
          obtain ⟨g82, rfl, z82, b82⟩ := h82
          subst hF
          go_wp2_with ((at_builtin; refine wpList_append_came rfl (.tmp 77) (.tmp 82) rfl rfl (hC.cm rfl).row rfl (sl_one HDRL.out b82 b82.lt) (came_row HDRL.out).2.2 (by omega) (Nat.le_trans hb28 hC.size) ?_; intro A5 C5 W1 h5 q5 k5))
          exact ⟨rfl, rfl, (C21.app hb28 hC h5 q5 k5 HVF.out).1, ⟨A5, C5, rfl, (C21.app hb28 hC h5 q5 k5 HVF.out).2⟩⟩
      intro uF WB hC' hU aF hF
      have hCWB : C21 w8 b2 gm #[.int .i64 tn, .int .i64 init, .slice At nt ct, .slice Ao no co, .slice Ac i Cc] Ac i Cc cs cv [gs, gm, g4] true WB := hC'
      clear hC'
      have h73 : (Det (.pointer (some ⟨gm, 0, none⟩))) (uF 0) WB := hU.1
      have h83 : (RelR b2 (i + 1) (cs ++ [cv]) [gs, gm, g4]) (uF 10) WB := hU.2.2.2.2.2.2.2.2.2.2.1
      clear hU
      simp only [List.take_succ_cons, List.take_zero, puts, Act.put, List.setIfInBounds_toArray, List.set_cons_zero, List.set_cons_succ] at hF
      generalize uF 0 = x73 at h73 hF
      generalize uF 1 = x74 at hF
      generalize uF 2 = x75 at hF
      generalize uF 3 = x76 at hF
      generalize uF 4 = x77 at hF
      generalize uF 5 = x78 at hF
      generalize uF 6 = x79 at hF
      generalize uF 7 = x80 at hF
      generalize uF 8 = x81 at hF
      generalize uF 9 = x82 at hF
      generalize uF 10 = x83 at h83 hF
      obtain rfl : x73 = (.pointer (some ⟨gm, 0, none⟩)) := h73
      obtain ⟨A83, C83, rfl, s83⟩ := h83
      subst hF
      simp only [List.drop_succ_cons, List.drop_zero]
      have bmB := hCWB.bm
      have fmB := bmB.frozen 4
      have emB : WB.cell? ⟨gm, 4, none⟩ = some (.slice Ac i Cc) := by rw [bmB.cell]; rfl
      refine wpListIn_of free_wide (fun ⟨_, _, h⟩ => h) rfl ?_
      go_wp2_with fail
      obtain ⟨N1, hN1⟩ : ∃ N, N = i + 1 := ⟨_, rfl⟩
      rw [← hN1] at s83 ⊢
      have HN1 := Lib.hid hN1
      obtain ⟨uc, huc⟩ : ∃ u, u = WB.setCell ⟨gm, 4, none⟩ (.slice A83 N1 C83) := ⟨_, rfl⟩
      have hfBc : Fr [gm] WB uc := by rw [huc]; exact Fr.of1 (grownBy_setCell _ _ 4 _)
      have bmc : Blk uc gm 55 #[.int .i64 tn, .int .i64 init, .slice At nt ct, .slice Ao no co, .slice A83 N1 C83] := by rw [huc]; exact bmB.set_ 4 _
      have hkt : KT w8 uc := hCWB.kt.trans (KT.ses bmB hfBc)
      have hcmc : Cm uc b2 A83 N1 C83 (cs ++ [cv]) [gs, gm, g4] := s83.fr hfBc (by simp) (fun g hg => by obtain rfl := List.mem_singleton.1 hg; exact wrote_ne s83.row bmB (by decide))
      have hwc : Below w.heap.size w uc := by rw [huc]; exact (HW8.out.trans (hCWB.bel.mono hwb2)).setCell (p := ⟨gm, 4, none⟩) hgwm _
      have hzc : w8.heap.size ≤ uc.heap.size := hkt.1
      have hlen1 : (cs ++ [cv]).length = N1 := by rw [List.length_append, HCL.out, hN1]; rfl
      have hi31 : N1 ≤ 300 := by omega
      have HMD := Lib.hid (show ∀ W, Cm W b2 A83 N1 C83 (cs ++ [cv]) [gs, gm, g4] → Blk W gm 55 #[.int .i64 tn, .int .i64 init, .slice At nt ct, .slice Ao no co, .slice A83 N1 C83] → Below w.heap.size w W → Md W gm tn init At nt ct th Ao no co ou A83 N1 C83 (cs ++ [cv]) from fun W h1 h2 h3 => h1.md h2 hlen1 ((HT.out.below h3).more h3.size) ((HO.out.below h3).more h3.size) hnt hno hi31)
      have hvi : (cs ++ [cv])[i]? = some cv := by rw [List.getElem?_append_right (by rw [HCL.out]; exact Nat.le_refl _), HCL.out, Nat.sub_self]; rfl
      have hti : stf init th ou ((cs ++ [cv]).take i) = s := by rw [List.take_left' HCL.out]; exact HSTF.out
      have hhc : hnd init th ou s cv.k cv.n cv.ds cv.dr = (s1, out) := by rw [HCV.out]; exact HHN.out
      have HAN := Lib.hid (ans_r (HMD.out uc hcmc bmc hwc) i hN1 hvi hti hhc)
      have HS1 := Lib.hid (show stf init th ou (cs ++ [cv]) = s1 by rw [stf_snoc, HSTF.out, hhc])
      have HTK := Lib.hid (show (cs ++ [cv]).take N1 = cs ++ [cv] from List.take_of_length_le (Nat.le_of_eq hlen1))
      have HUC := Lib.hid huc
      have HBMC := Lib.hid bmc
      have HCMC := Lib.hid hcmc
      have HWC := Lib.hid hwc
      have HEC := Lib.hid (hkt.se HE8.out)
      have HSVC := Lib.hid (hkt.step HSV8.out)
      have HKC := Lib.hid (hkt.own HK8.out)
      have B7C := Lib.hid (hkt.2 _ _ _ B87.out (by decide) (by decide))
      have BAC := Lib.hid (hkt.2 _ _ _ B8A.out (by decide) (by decide))
      have B6C := Lib.hid (hkt.2 _ _ _ B86.out (by decide) (by decide))
      have BCC := Lib.hid (hkt.2 _ _ _ B8C.out (by decide) (by decide))
      have B4C := Lib.hid (hkt.2 _ _ _ B84.out (by decide) (by decide))
      have BTC := Lib.hid (hkt.2 _ _ _ b8S (by decide) (by decide))
      have HLEN1 := Lib.hid hlen1
      have hbnd := Lib.hid (hnd_b HHN.out HNX.out.1)
      have HDRW := Lib.hid (fun hd => hnd_drew HHN.out hd)
      have hb2c : b2 ≤ uc.heap.size := Nat.le_trans hb28 hzc
      have hgtc := BTC.out.lt
      clear hN1 huc hfBc bmc hkt hcmc hwc hvi hti hhc hlen1 hCWB bmB fmB emB s83 b8S HSV8 HE8 HBM8 HCM8 HW8 HK8 B87 B8A B86 B8C B84
      go_wp2_with (go_at_call 23; rw [← HUC.out]; refine HAN.out.mono ?_; rintro e v13 ⟨A13, c13, rfl, ho13, hb13⟩)
      obtain ⟨u14, hu14⟩ : ∃ u, u = v13.alloc (.cells #[.int .i64 out.k, .int .i64 out.n, .int .i64 out.x, .slice A13 out.bs.length c13] 36) := ⟨_, rfl⟩
      obtain ⟨gw, hgw2⟩ : ∃ g, g = v13.heap.size := ⟨_, rfl⟩
      have b14w : Blk u14 gw 36 #[.int .i64 out.k, .int .i64 out.n, .int .i64 out.x, .slice A13 out.bs.length c13] := by rw [hu14, hgw2]; exact Blk.new _ _ _
      have hb14 : Below v13.heap.size v13 u14 := by rw [hu14]; exact below_alloc _ _
      have hbc14 : Below uc.heap.size uc u14 := hb13.trans (hb14.mono hb13.size)
      rw [← hu14, ← hgw2]
      have B14W := Lib.hid b14w
      have HO13 := Lib.hid (OwB.below ho13 hb14)
      have HBMD := Lib.hid (HBMC.out.below hbc14 HBMC.out.lt)
      have HCMD := Lib.hid (HCMC.out.below hbc14)
      have HWD := Lib.hid (HWC.out.trans (hbc14.mono HWC.out.size))
      have HED := Lib.hid (HEC.out.below hbc14)
      have HSVD := Lib.hid (HSVC.out.below hbc14)
      have HKD := Lib.hid (OwB.below HKC.out hbc14)
      have B7D := Lib.hid (B7C.out.below hbc14 B7C.out.lt)
      have BAD := Lib.hid (BAC.out.below hbc14 BAC.out.lt)
      have B6D := Lib.hid (B6C.out.below hbc14 B6C.out.lt)
      have BCD := Lib.hid (BCC.out.below hbc14 BCC.out.lt)
      have B4D := Lib.hid (B4C.out.below hbc14 B4C.out.lt)
      have BTD := Lib.hid (BTC.out.below hbc14 BTC.out.lt)
      have HDFD := Lib.hid (show SlB u14 u14.heap.size A' m' c' fd by have := (HCMD.out.oks cv (by simp)).1; rw [HCV.out] at this; exact this)
      have hb2d : b2 ≤ u14.heap.size := Nat.le_trans hb2c hbc14.size
      have hcmz := HWD.out.size
      clear hu14 hgw2 b14w hb14 hbc14 ho13 hb13 HBMC HCMC HWC HEC HSVC HKC B7C BAC B6C BCC B4C BTC HAN
      have hdd0 : (out.drew != out.drew) = false := by simp
      have htt0 : (out.taken != out.taken) = false := by simp
      cases hhas : out.has with
      | true =>
        have HHAS := Lib.hid hhas
        obtain ⟨-, g9, Aa, ca, e9, hg9, b99, ho9⟩ := HSVD.out.resolve_right (fun h => by rw [hhas] at h; exact absurd h.1 (by simp))
        simp only [Value.agg.injEq, Array.mk.injEq, List.cons.injEq, Value.slice.injEq, and_true] at e9
        obtain ⟨rfl, rfl, rfl⟩ := e9
        have B99 := Lib.hid b99
        have HO9 := Lib.hid ho9
        clear hhas b99 ho9
      
        refine wp_region_rel (fun W W' => Below W.heap.size W W') (fun W => Below u14.heap.size u14 W)
          [Det (.pointer (some ⟨ga, 3, none⟩)), Det (.slice (some ⟨gk, 0, none⟩) m' (m' + 2)), Det (.pointer (some ⟨g7, 3, none⟩)), Det (.slice A' m' c'), Det (.bool true), Det (.bool false), Det (.bool false), Det (.bool true), Det (.pointer (some ⟨gt, 0, none⟩)), Det (.slice (some ⟨g9, 0, none⟩) 1 1), Det (.int .i64 1), Det (.bool true), Det (.bool false), Det (.bool false), Det (.bool false), Det (.pointer (some ⟨gt, 0, none⟩)), Det (.slice (some ⟨g9, 0, none⟩) 1 1), Det (.int .i64 1), Det (.bool false), Det (.bool false), Det (.bool false), Det (.bool true), Det (.bool true), Det (.pointer (some ⟨gt, 0, none⟩)), Det (.slice (some ⟨g9, 0, none⟩) 1 1), Det (.pointer (some ⟨g9, 0, none⟩)), Det (.agg #[.int .i64 out.k, .int .i64 out.n, .int .i64 out.x, .slice Aa out.bs.length ca]), Det (.agg #[.int .i64 out.k, .int .i64 out.n, .int .i64 out.x, .slice A13 out.bs.length c13]), Det (.bool true), Det (.bool false), Det (.bool false), Det (.bool false), Det (.bool false), Det (.pointer (some ⟨gt, 1, none⟩)), Det (.bool out.drew), Det (.bool out.drew), Det (.bool false), Det (.bool false), Det (.bool false), Det (.pointer (some ⟨gt, 2, none⟩)), Det (.bool out.taken), Det (.bool out.taken), Det (.bool false), Det (.bool false)]
          [[], [(0, some 93)], [], [(2, some 95)], [(1, some 94), (3, some 96)], [(4, some 97)], [(5, some 98)], [(6, some 99)], [(6, some 99)], [(8, some 101), (6, some 99)], [(9, some 102), (6, some 99)], [(10, some 103), (6, some 99)], [(7, some 100), (11, some 104), (6, some 99)], [(6, some 99), (12, some 105)], [(13, some 106)], [(14, some 107)], [(15, some 108), (14, some 107)], [(16, some 109), (14, some 107)], [(17, some 110), (14, some 107)], [(14, some 107), (18, some 111)], [(19, some 112)], [(20, some 113)], [(21, some 114), (20, some 113)], [(22, some 115)], [(23, some 116), (22, some 115)], [(24, some 117), (22, some 115)], [(25, some 118), (22, some 115)], [(22, some 115)], [(26, some 119), (27, some 120), (22, some 115)], [(28, some 121), (22, some 115)], [(22, some 115), (29, some 122), (20, some 113)], [(20, some 113), (30, some 123)], [(31, some 124)], [(32, some 125)], [(33, some 126), (32, some 125)], [(32, some 125)], [(34, some 127), (35, some 128), (32, some 125)], [(32, some 125), (36, some 129)], [(37, some 130)], [(38, some 131)], [(39, some 132), (38, some 131)], [(38, some 131)], [(40, some 133), (41, some 134), (38, some 131)], [(38, some 131), (42, some 135)]]
          [[], [0], [], [2], [0, 1, 2, 3], [0, 1, 2, 3, 4], [0, 1, 2, 3, 4, 5], [0, 1, 2, 3, 4, 5, 6], [0, 1, 2, 3, 4, 5, 6], [0, 1, 2, 3, 4, 5, 6, 8], [0, 1, 2, 3, 4, 5, 6, 8, 9], [0, 1, 2, 3, 4, 5, 6, 8, 9, 10], [0, 1, 2, 3, 4, 5, 6, 7, 8, 9, 10, 11], [0, 1, 2, 3, 4, 5, 6, 7, 8, 9, 10, 11, 12], [0, 1, 2, 3, 4, 5, 6, 7, 8, 9, 10, 11, 12, 13], [0, 1, 2, 3, 4, 5, 6, 7, 8, 9, 10, 11, 12, 13, 14], [0, 1, 2, 3, 4, 5, 6, 7, 8, 9, 10, 11, 12, 13, 14, 15], [0, 1, 2, 3, 4, 5, 6, 7, 8, 9, 10, 11, 12, 13, 14, 15, 16], [0, 1, 2, 3, 4, 5, 6, 7, 8, 9, 10, 11, 12, 13, 14, 15, 16, 17], [0, 1, 2, 3, 4, 5, 6, 7, 8, 9, 10, 11, 12, 13, 14, 15, 16, 17, 18], [0, 1, 2, 3, 4, 5, 6, 7, 8, 9, 10, 11, 12, 13, 14, 15, 16, 17, 18, 19], [0, 1, 2, 3, 4, 5, 6, 7, 8, 9, 10, 11, 12, 13, 14, 15, 16, 17, 18, 19, 20], [0, 1, 2, 3, 4, 5, 6, 7, 8, 9, 10, 11, 12, 13, 14, 15, 16, 17, 18, 19, 20, 21], [0, 1, 2, 3, 4, 5, 6, 7, 8, 9, 10, 11, 12, 13, 14, 15, 16, 17, 18, 19, 20, 21, 22], [0, 1, 2, 3, 4, 5, 6, 7, 8, 9, 10, 11, 12, 13, 14, 15, 16, 17, 18, 19, 20, 21, 22, 23], [0, 1, 2, 3, 4, 5, 6, 7, 8, 9, 10, 11, 12, 13, 14, 15, 16, 17, 18, 19, 20, 21, 22, 23, 24], [0, 1, 2, 3, 4, 5, 6, 7, 8, 9, 10, 11, 12, 13, 14, 15, 16, 17, 18, 19, 20, 21, 22, 23, 24, 25], [0, 1, 2, 3, 4, 5, 6, 7, 8, 9, 10, 11, 12, 13, 14, 15, 16, 17, 18, 19, 20, 21, 22], [0, 1, 2, 3, 4, 5, 6, 7, 8, 9, 10, 11, 12, 13, 14, 15, 16, 17, 18, 19, 20, 21, 22, 23, 24, 25, 26, 27], [0, 1, 2, 3, 4, 5, 6, 7, 8, 9, 10, 11, 12, 13, 14, 15, 16, 17, 18, 19, 20, 21, 22, 23, 24, 25, 26, 27, 28], [0, 1, 2, 3, 4, 5, 6, 7, 8, 9, 10, 11, 12, 13, 14, 15, 16, 17, 18, 19, 20, 21, 22, 23, 24, 25, 26, 27, 28, 29], [0, 1, 2, 3, 4, 5, 6, 7, 8, 9, 10, 11, 12, 13, 14, 15, 16, 17, 18, 19, 20, 21, 22, 23, 24, 25, 26, 27, 28, 29, 30], [0, 1, 2, 3, 4, 5, 6, 7, 8, 9, 10, 11, 12, 13, 14, 15, 16, 17, 18, 19, 20, 21, 22, 23, 24, 25, 26, 27, 28, 29, 30, 31], [0, 1, 2, 3, 4, 5, 6, 7, 8, 9, 10, 11, 12, 13, 14, 15, 16, 17, 18, 19, 20, 21, 22, 23, 24, 25, 26, 27, 28, 29, 30, 31, 32], [0, 1, 2, 3, 4, 5, 6, 7, 8, 9, 10, 11, 12, 13, 14, 15, 16, 17, 18, 19, 20, 21, 22, 23, 24, 25, 26, 27, 28, 29, 30, 31, 32, 33], [0, 1, 2, 3, 4, 5, 6, 7, 8, 9, 10, 11, 12, 13, 14, 15, 16, 17, 18, 19, 20, 21, 22, 23, 24, 25, 26, 27, 28, 29, 30, 31, 32], [0, 1, 2, 3, 4, 5, 6, 7, 8, 9, 10, 11, 12, 13, 14, 15, 16, 17, 18, 19, 20, 21, 22, 23, 24, 25, 26, 27, 28, 29, 30, 31, 32, 33, 34, 35], [0, 1, 2, 3, 4, 5, 6, 7, 8, 9, 10, 11, 12, 13, 14, 15, 16, 17, 18, 19, 20, 21, 22, 23, 24, 25, 26, 27, 28, 29, 30, 31, 32, 33, 34, 35, 36], [0, 1, 2, 3, 4, 5, 6, 7, 8, 9, 10, 11, 12, 13, 14, 15, 16, 17, 18, 19, 20, 21, 22, 23, 24, 25, 26, 27, 28, 29, 30, 31, 32, 33, 34, 35, 36, 37], [0, 1, 2, 3, 4, 5, 6, 7, 8, 9, 10, 11, 12, 13, 14, 15, 16, 17, 18, 19, 20, 21, 22, 23, 24, 25, 26, 27, 28, 29, 30, 31, 32, 33, 34, 35, 36, 37, 38], [0, 1, 2, 3, 4, 5, 6, 7, 8, 9, 10, 11, 12, 13, 14, 15, 16, 17, 18, 19, 20, 21, 22, 23, 24, 25, 26, 27, 28, 29, 30, 31, 32, 33, 34, 35, 36, 37, 38, 39], [0, 1, 2, 3, 4, 5, 6, 7, 8, 9, 10, 11, 12, 13, 14, 15, 16, 17, 18, 19, 20, 21, 22, 23, 24, 25, 26, 27, 28, 29, 30, 31, 32, 33, 34, 35, 36, 37, 38], [0, 1, 2, 3, 4, 5, 6, 7, 8, 9, 10, 11, 12, 13, 14, 15, 16, 17, 18, 19, 20, 21, 22, 23, 24, 25, 26, 27, 28, 29, 30, 31, 32, 33, 34, 35, 36, 37, 38, 39, 40, 41], [0, 1, 2, 3, 4, 5, 6, 7, 8, 9, 10, 11, 12, 13, 14, 15, 16, 17, 18, 19, 20, 21, 22, 23, 24, 25, 26, 27, 28, 29, 30, 31, 32, 33, 34, 35, 36, 37, 38, 39, 40, 41, 42]]
          [(0, some 93), (1, some 94), (2, some 95), (3, some 96), (4, some 97), (5, some 98), (6, some 99), (7, some 100), (8, some 101), (9, some 102), (10, some 103), (11, some 104), (12, some 105), (13, some 106), (14, some 107), (15, some 108), (16, some 109), (17, some 110), (18, some 111), (19, some 112), (20, some 113), (21, some 114), (22, some 115), (23, some 116), (24, some 117), (25, some 118), (26, some 119), (27, some 120), (28, some 121), (29, some 122), (30, some 123), (31, some 124), (32, some 125), (33, some 126), (34, some 127), (35, some 128), (36, some 129), (37, some 130), (38, some 131), (39, some 132), (40, some 133), (41, some 134), (42, some 135), (43, some 136)] (by kernel_rfl) (by kernel_rfl) (fun W W' h1 h2 => h1.trans (h2.mono h1.size)) ((Below.refl _ _).drew) ?_ ?_ ?_
        · exact (AllMono.cons Det.later (AllMono.cons Det.later (AllMono.cons Det.later (AllMono.cons Det.later (AllMono.cons Det.later (AllMono.cons Det.later (AllMono.cons Det.later (AllMono.cons Det.later (AllMono.cons Det.later (AllMono.cons Det.later (AllMono.cons Det.later (AllMono.cons Det.later (AllMono.cons Det.later (AllMono.cons Det.later (AllMono.cons Det.later (AllMono.cons Det.later (AllMono.cons Det.later (AllMono.cons Det.later (AllMono.cons Det.later (AllMono.cons Det.later (AllMono.cons Det.later (AllMono.cons Det.later (AllMono.cons Det.later (AllMono.cons Det.later (AllMono.cons Det.later (AllMono.cons Det.later (AllMono.cons Det.later (AllMono.cons Det.later (AllMono.cons Det.later (AllMono.cons Det.later (AllMono.cons Det.later (AllMono.cons Det.later (AllMono.cons Det.later (AllMono.cons Det.later (AllMono.cons Det.later (AllMono.cons Det.later (AllMono.cons Det.later (AllMono.cons Det.later (AllMono.cons Det.later (AllMono.cons Det.later (AllMono.cons Det.later (AllMono.cons Det.later (AllMono.cons Det.later (AllMono.cons Det.later AllMono.nil))))))))))))))))))))))))))))))))))))))))))))
        · refine AllOb.cons ?_ (AllOb.cons ?_ (AllOb.cons ?_ (AllOb.cons ?_ (AllOb.cons ?_ (AllOb.cons ?_ (AllOb.cons ?_ (AllOb.cons ?_ (AllOb.cons ?_ (AllOb.cons ?_ (AllOb.cons ?_ (AllOb.cons ?_ (AllOb.cons ?_ (AllOb.cons ?_ (AllOb.cons ?_ (AllOb.cons ?_ (AllOb.cons ?_ (AllOb.cons ?_ (AllOb.cons ?_ (AllOb.cons ?_ (AllOb.cons ?_ (AllOb.cons ?_ (AllOb.cons ?_ (AllOb.cons ?_ (AllOb.cons ?_ (AllOb.cons ?_ (AllOb.cons ?_ (AllOb.cons ?_ (AllOb.cons ?_ (AllOb.cons ?_ (AllOb.cons ?_ (AllOb.cons ?_ (AllOb.cons ?_ (AllOb.cons ?_ (AllOb.cons ?_ (AllOb.cons ?_ (AllOb.cons ?_ (AllOb.cons ?_ (AllOb.cons ?_ (AllOb.cons ?_ (AllOb.cons ?_ (AllOb.cons ?_ (AllOb.cons ?_ (AllOb.cons ?_ (AllOb.nil))))))))))))))))))))))))))))))))))))))))))))
          · intro uF W hC' hU aF hF
            have hC : Below u14.heap.size u14 W := hC'
            clear hC'
            simp only [puts] at hF
            subst hF
            go_wp2_with (fail)
            exact ⟨rfl, rfl, (Below.refl _ _), rfl⟩
          · intro uF W hC' hU aF hF
            have hC : Below u14.heap.size u14 W := hC'
            clear hC'
            have h93 : (Det (.pointer (some ⟨ga, 3, none⟩))) (uF 0) W := hU.1
            clear hU
            simp only [puts, Act.put, List.setIfInBounds_toArray, List.set_cons_zero, List.set_cons_succ] at hF
            generalize uF 0 = x93 at h93 hF
            obtain rfl : x93 = (.pointer (some ⟨ga, 3, none⟩)) := h93
            subst hF
            have d1 : W.cell? ⟨ga, 3, none⟩ = some (.slice (some ⟨gk, 0, none⟩) m' (m' + 2)) := by rw [(BAD.out.below hC BAD.out.lt).cell]; rfl
            go_wp2_with (fail)
            exact ⟨rfl, rfl, (Below.refl _ _), rfl⟩
          · intro uF W hC' hU aF hF
            have hC : Below u14.heap.size u14 W := hC'
            clear hC'
            simp only [puts] at hF
            subst hF
            go_wp2_with (fail)
            exact ⟨rfl, rfl, (Below.refl _ _), rfl⟩
          · intro uF W hC' hU aF hF
            have hC : Below u14.heap.size u14 W := hC'
            clear hC'
            have h95 : (Det (.pointer (some ⟨g7, 3, none⟩))) (uF 2) W := hU.1
            clear hU
            simp only [puts, Act.put, List.setIfInBounds_toArray, List.set_cons_zero, List.set_cons_succ] at hF
            generalize uF 2 = x95 at h95 hF
            obtain rfl : x95 = (.pointer (some ⟨g7, 3, none⟩)) := h95
            subst hF
            have d1 : W.cell? ⟨g7, 3, none⟩ = some (.slice A' m' c') := by rw [(B7D.out.below hC B7D.out.lt).cell]; rfl
            go_wp2_with (fail)
            exact ⟨rfl, rfl, (Below.refl _ _), rfl⟩
          · intro uF W hC' hU aF hF
            have hC : Below u14.heap.size u14 W := hC'
            clear hC'
            have h94 : (Det (.slice (some ⟨gk, 0, none⟩) m' (m' + 2))) (uF 1) W := hU.1
            have h96 : (Det (.slice A' m' c')) (uF 3) W := hU.2.1
            clear hU
            simp only [puts, Act.put, List.setIfInBounds_toArray, List.set_cons_zero, List.set_cons_succ] at hF
            generalize uF 1 = x94 at h94 hF
            generalize uF 3 = x96 at h96 hF
            obtain rfl : x94 = (.slice (some ⟨gk, 0, none⟩) m' (m' + 2)) := h94
            obtain rfl : x96 = (.slice A' m' c') := h96
            subst hF
            go_wp2_with ((go_at_call 24; refine (kept_c ((OwB.below HKD.out hC).sl) (HDFD.out.below hC) (by omega)).mono ?_; rintro e W1 ⟨rfl, rfl⟩))
            exact ⟨rfl, rfl, (Below.refl _ _), rfl⟩
          · intro uF W hC' hU aF hF
            have hC : Below u14.heap.size u14 W := hC'
            clear hC'
            have h97 : (Det (.bool true)) (uF 4) W := hU.1
            clear hU
            simp only [puts, Act.put, List.setIfInBounds_toArray, List.set_cons_zero, List.set_cons_succ] at hF
            generalize uF 4 = x97 at h97 hF
            obtain rfl : x97 = (.bool true) := h97
            subst hF
            go_wp2_with (fail)
            exact ⟨rfl, rfl, (Below.refl _ _), rfl⟩
          · intro uF W hC' hU aF hF
            have hC : Below u14.heap.size u14 W := hC'
            clear hC'
            have h98 : (Det (.bool false)) (uF 5) W := hU.1
            clear hU
            simp only [puts, Act.put, List.setIfInBounds_toArray, List.set_cons_zero, List.set_cons_succ] at hF
            generalize uF 5 = x98 at h98 hF
            obtain rfl : x98 = (.bool false) := h98
            subst hF
            go_wp2_with (fail)
            exact ⟨rfl, rfl, (Below.refl _ _), rfl⟩
          · intro uF W hC' hU aF hF
            have hC : Below u14.heap.size u14 W := hC'
            clear hC'
            have h99 : (Det (.bool false)) (uF 6) W := hU.1
            clear hU
            simp only [puts, Act.put, List.setIfInBounds_toArray, List.set_cons_zero, List.set_cons_succ] at hF
            generalize uF 6 = x99 at h99 hF
            obtain rfl : x99 = (.bool false) := h99
            subst hF
            go_wp2_with (fail)
            exact ⟨rfl, rfl, (Below.refl _ _), rfl⟩
          · intro uF W hC' hU aF hF
            have hC : Below u14.heap.size u14 W := hC'
            clear hC'
            have h99 : (Det (.bool false)) (uF 6) W := hU.1
            clear hU
            simp only [puts, Act.put, List.setIfInBounds_toArray, List.set_cons_zero, List.set_cons_succ] at hF
            generalize uF 6 = x99 at h99 hF
            obtain rfl : x99 = (.bool false) := h99
            subst hF
            go_wp2_with (fail)
            exact ⟨rfl, rfl, (Below.refl _ _), rfl⟩
          · intro uF W hC' hU aF hF
            have hC : Below u14.heap.size u14 W := hC'
            clear hC'
            have h101 : (Det (.pointer (some ⟨gt, 0, none⟩))) (uF 8) W := hU.1
            have h99 : (Det (.bool false)) (uF 6) W := hU.2.1
            clear hU
            simp only [puts, Act.put, List.setIfInBounds_toArray, List.set_cons_zero, List.set_cons_succ] at hF
            generalize uF 8 = x101 at h101 hF
            generalize uF 6 = x99 at h99 hF
            obtain rfl : x101 = (.pointer (some ⟨gt, 0, none⟩)) := h101
            obtain rfl : x99 = (.bool false) := h99
            subst hF
            have d1 : W.cell? ⟨gt, 0, none⟩ = some (.slice (some ⟨g9, 0, none⟩) 1 1) := by rw [(BTD.out.below hC BTD.out.lt).cell]; rfl
            go_wp2_with (fail)
            exact ⟨rfl, rfl, (Below.refl _ _), rfl⟩
          · intro uF W hC' hU aF hF
            have hC : Below u14.heap.size u14 W := hC'
            clear hC'
            have h102 : (Det (.slice (some ⟨g9, 0, none⟩) 1 1)) (uF 9) W := hU.1
            have h99 : (Det (.bool false)) (uF 6) W := hU.2.1
            clear hU
            simp only [puts, Act.put, List.setIfInBounds_toArray, List.set_cons_zero, List.set_cons_succ] at hF
            generalize uF 9 = x102 at h102 hF
            generalize uF 6 = x99 at h99 hF
            obtain rfl : x102 = (.slice (some ⟨g9, 0, none⟩) 1 1) := h102
            obtain rfl : x99 = (.bool false) := h99
            subst hF
            go_wp2_with (fail)
            exact ⟨rfl, rfl, (Below.refl _ _), rfl⟩
          · intro uF W hC' hU aF hF
            have hC : Below u14.heap.size u14 W := hC'
            clear hC'
            have h103 : (Det (.int .i64 1)) (uF 10) W := hU.1
            have h99 : (Det (.bool false)) (uF 6) W := hU.2.1
            clear hU
            simp only [puts, Act.put, List.setIfInBounds_toArray, List.set_cons_zero, List.set_cons_succ] at hF
            generalize uF 10 = x103 at h103 hF
            generalize uF 6 = x99 at h99 hF
            obtain rfl : x103 = (.int .i64 1) := h103
            obtain rfl : x99 = (.bool false) := h99
            subst hF
            go_wp2_with (fail)
            exact ⟨rfl, rfl, (Below.refl _ _), rfl⟩
          · intro uF W hC' hU aF hF
            have hC : Below u14.heap.size u14 W := hC'
            clear hC'
            have h100 : (Det (.bool true)) (uF 7) W := hU.1
            have h104 : (Det (.bool true)) (uF 11) W := hU.2.1
            have h99 : (Det (.bool false)) (uF 6) W := hU.2.2.1
            clear hU
            simp only [puts, Act.put, List.setIfInBounds_toArray, List.set_cons_zero, List.set_cons_succ] at hF
            generalize uF 7 = x100 at h100 hF
            generalize uF 11 = x104 at h104 hF
            generalize uF 6 = x99 at h99 hF
            obtain rfl : x100 = (.bool true) := h100
            obtain rfl : x104 = (.bool true) := h104
            obtain rfl : x99 = (.bool false) := h99
            subst hF
            go_wp2_with (fail)
            exact ⟨rfl, rfl, (Below.refl _ _), rfl⟩
          · intro uF W hC' hU aF hF
            have hC : Below u14.heap.size u14 W := hC'
            clear hC'
            have h99 : (Det (.bool false)) (uF 6) W := hU.1
            have h105 : (Det (.bool false)) (uF 12) W := hU.2.1
            clear hU
            simp only [puts, Act.put, List.setIfInBounds_toArray, List.set_cons_zero, List.set_cons_succ] at hF
            generalize uF 6 = x99 at h99 hF
            generalize uF 12 = x105 at h105 hF
            obtain rfl : x99 = (.bool false) := h99
            obtain rfl : x105 = (.bool false) := h105
            subst hF
            go_wp2_with (fail)
            exact ⟨rfl, rfl, (Below.refl _ _), rfl⟩
          · intro uF W hC' hU aF hF
            have hC : Below u14.heap.size u14 W := hC'
            clear hC'
            have h106 : (Det (.bool false)) (uF 13) W := hU.1
            clear hU
            simp only [puts, Act.put, List.setIfInBounds_toArray, List.set_cons_zero, List.set_cons_succ] at hF
            generalize uF 13 = x106 at h106 hF
            obtain rfl : x106 = (.bool false) := h106
            subst hF
            go_wp2_with (fail)
            exact ⟨rfl, rfl, (Below.refl _ _), rfl⟩
          · intro uF W hC' hU aF hF
            have hC : Below u14.heap.size u14 W := hC'
            clear hC'
            have h107 : (Det (.bool false)) (uF 14) W := hU.1
            clear hU
            simp only [puts, Act.put, List.setIfInBounds_toArray, List.set_cons_zero, List.set_cons_succ] at hF
            generalize uF 14 = x107 at h107 hF
            obtain rfl : x107 = (.bool false) := h107
            subst hF
            go_wp2_with (fail)
            exact ⟨rfl, rfl, (Below.refl _ _), rfl⟩
          · intro uF W hC' hU aF hF
            have hC : Below u14.heap.size u14 W := hC'
            clear hC'
            have h108 : (Det (.pointer (some ⟨gt, 0, none⟩))) (uF 15) W := hU.1
            have h107 : (Det (.bool false)) (uF 14) W := hU.2.1
            clear hU
            simp only [puts, Act.put, List.setIfInBounds_toArray, List.set_cons_zero, List.set_cons_succ] at hF
            generalize uF 15 = x108 at h108 hF
            generalize uF 14 = x107 at h107 hF
            obtain rfl : x108 = (.pointer (some ⟨gt, 0, none⟩)) := h108
            obtain rfl : x107 = (.bool false) := h107
            subst hF
            have d1 : W.cell? ⟨gt, 0, none⟩ = some (.slice (some ⟨g9, 0, none⟩) 1 1) := by rw [(BTD.out.below hC BTD.out.lt).cell]; rfl
            go_wp2_with (fail)
            exact ⟨rfl, rfl, (Below.refl _ _), rfl⟩
          · intro uF W hC' hU aF hF
            have hC : Below u14.heap.size u14 W := hC'
            clear hC'
            have h109 : (Det (.slice (some ⟨g9, 0, none⟩) 1 1)) (uF 16) W := hU.1
            have h107 : (Det (.bool false)) (uF 14) W := hU.2.1
            clear hU
            simp only [puts, Act.put, List.setIfInBounds_toArray, List.set_cons_zero, List.set_cons_succ] at hF
            generalize uF 16 = x109 at h109 hF
            generalize uF 14 = x107 at h107 hF
            obtain rfl : x109 = (.slice (some ⟨g9, 0, none⟩) 1 1) := h109
            obtain rfl : x107 = (.bool false) := h107
            subst hF
            go_wp2_with (fail)
            exact ⟨rfl, rfl, (Below.refl _ _), rfl⟩
          · intro uF W hC' hU aF hF
            have hC : Below u14.heap.size u14 W := hC'
            clear hC'
            have h110 : (Det (.int .i64 1)) (uF 17) W := hU.1
            have h107 : (Det (.bool false)) (uF 14) W := hU.2.1
            clear hU
            simp only [puts, Act.put, List.setIfInBounds_toArray, List.set_cons_zero, List.set_cons_succ] at hF
            generalize uF 17 = x110 at h110 hF
            generalize uF 14 = x107 at h107 hF
            obtain rfl : x110 = (.int .i64 1) := h110
            obtain rfl : x107 = (.bool false) := h107
            subst hF
            go_wp2_with (fail)
            exact ⟨rfl, rfl, (Below.refl _ _), rfl⟩
          · intro uF W hC' hU aF hF
            have hC : Below u14.heap.size u14 W := hC'
            clear hC'
            have h107 : (Det (.bool false)) (uF 14) W := hU.1
            have h111 : (Det (.bool false)) (uF 18) W := hU.2.1
            clear hU
            simp only [puts, Act.put, List.setIfInBounds_toArray, List.set_cons_zero, List.set_cons_succ] at hF
            generalize uF 14 = x107 at h107 hF
            generalize uF 18 = x111 at h111 hF
            obtain rfl : x107 = (.bool false) := h107
            obtain rfl : x111 = (.bool false) := h111
            subst hF
            go_wp2_with (fail)
            exact ⟨rfl, rfl, (Below.refl _ _), rfl⟩
          · intro uF W hC' hU aF hF
            have hC : Below u14.heap.size u14 W := hC'
            clear hC'
            have h112 : (Det (.bool false)) (uF 19) W := hU.1
            clear hU
            simp only [puts, Act.put, List.setIfInBounds_toArray, List.set_cons_zero, List.set_cons_succ] at hF
            generalize uF 19 = x112 at h112 hF
            obtain rfl : x112 = (.bool false) := h112
            subst hF
            go_wp2_with (fail)
            exact ⟨rfl, rfl, (Below.refl _ _), rfl⟩
          · intro uF W hC' hU aF hF
            have hC : Below u14.heap.size u14 W := hC'
            clear hC'
            have h113 : (Det (.bool false)) (uF 20) W := hU.1
            clear hU
            simp only [puts, Act.put, List.setIfInBounds_toArray, List.set_cons_zero, List.set_cons_succ] at hF
            generalize uF 20 = x113 at h113 hF
            obtain rfl : x113 = (.bool false) := h113
            subst hF
            go_wp2_with (fail)
            exact ⟨rfl, rfl, (Below.refl _ _), rfl⟩
          · intro uF W hC' hU aF hF
            have hC : Below u14.heap.size u14 W := hC'
            clear hC'
            have h114 : (Det (.bool true)) (uF 21) W := hU.1
            have h113 : (Det (.bool false)) (uF 20) W := hU.2.1
            clear hU
            simp only [puts, Act.put, List.setIfInBounds_toArray, List.set_cons_zero, List.set_cons_succ] at hF
            generalize uF 21 = x114 at h114 hF
            generalize uF 20 = x113 at h113 hF
            obtain rfl : x114 = (.bool true) := h114
            obtain rfl : x113 = (.bool false) := h113
            subst hF
            go_wp2_with (fail)
            exact ⟨rfl, rfl, (Below.refl _ _), rfl⟩
          · intro uF W hC' hU aF hF
            have hC : Below u14.heap.size u14 W := hC'
            clear hC'
            have h115 : (Det (.bool true)) (uF 22) W := hU.1
            clear hU
            simp only [puts, Act.put, List.setIfInBounds_toArray, List.set_cons_zero, List.set_cons_succ] at hF
            generalize uF 22 = x115 at h115 hF
            obtain rfl : x115 = (.bool true) := h115
            subst hF
            go_wp2_with (fail)
            exact ⟨rfl, rfl, (Below.refl _ _), rfl⟩
          · intro uF W hC' hU aF hF
            have hC : Below u14.heap.size u14 W := hC'
            clear hC'
            have h116 : (Det (.pointer (some ⟨gt, 0, none⟩))) (uF 23) W := hU.1
            have h115 : (Det (.bool true)) (uF 22) W := hU.2.1
            clear hU
            simp only [puts, Act.put, List.setIfInBounds_toArray, List.set_cons_zero, List.set_cons_succ] at hF
            generalize uF 23 = x116 at h116 hF
            generalize uF 22 = x115 at h115 hF
            obtain rfl : x116 = (.pointer (some ⟨gt, 0, none⟩)) := h116
            obtain rfl : x115 = (.bool true) := h115
            subst hF
            have d1 : W.cell? ⟨gt, 0, none⟩ = some (.slice (some ⟨g9, 0, none⟩) 1 1) := by rw [(BTD.out.below hC BTD.out.lt).cell]; rfl
            go_wp2_with (fail)
            exact ⟨rfl, rfl, (Below.refl _ _), rfl⟩
          · intro uF W hC' hU aF hF
            have hC : Below u14.heap.size u14 W := hC'
            clear hC'
            have h117 : (Det (.slice (some ⟨g9, 0, none⟩) 1 1)) (uF 24) W := hU.1
            have h115 : (Det (.bool true)) (uF 22) W := hU.2.1
            clear hU
            simp only [puts, Act.put, List.setIfInBounds_toArray, List.set_cons_zero, List.set_cons_succ] at hF
            generalize uF 24 = x117 at h117 hF
            generalize uF 22 = x115 at h115 hF
            obtain rfl : x117 = (.slice (some ⟨g9, 0, none⟩) 1 1) := h117
            obtain rfl : x115 = (.bool true) := h115
            subst hF
            go_wp2_with (fail)
            exact ⟨rfl, rfl, (Below.refl _ _), rfl⟩
          · intro uF W hC' hU aF hF
            have hC : Below u14.heap.size u14 W := hC'
            clear hC'
            have h118 : (Det (.pointer (some ⟨g9, 0, none⟩))) (uF 25) W := hU.1
            have h115 : (Det (.bool true)) (uF 22) W := hU.2.1
            clear hU
            simp only [puts, Act.put, List.setIfInBounds_toArray, List.set_cons_zero, List.set_cons_succ] at hF
            generalize uF 25 = x118 at h118 hF
            generalize uF 22 = x115 at h115 hF
            obtain rfl : x118 = (.pointer (some ⟨g9, 0, none⟩)) := h118
            obtain rfl : x115 = (.bool true) := h115
            subst hF
            go_wp2_with (((with_reducible show wpList _ _ _ (Oper.mk _ (Op.load _ _) _ _ _ _ :: _) _ _); refine wpList_load_whole (by rfl) 36 (.tmp 118) rfl g9 rfl #[.int .i64 out.k, .int .i64 out.n, .int .i64 out.x, .slice Aa out.bs.length ca] aggFr rfl _ (B99.out.below hC B99.out.lt) ?_))
            exact ⟨rfl, rfl, (Below.refl _ _), rfl⟩
          · intro uF W hC' hU aF hF
            have hC : Below u14.heap.size u14 W := hC'
            clear hC'
            have h115 : (Det (.bool true)) (uF 22) W := hU.1
            clear hU
            simp only [puts, Act.put, List.setIfInBounds_toArray, List.set_cons_zero, List.set_cons_succ] at hF
            generalize uF 22 = x115 at h115 hF
            obtain rfl : x115 = (.bool true) := h115
            subst hF
            go_wp2_with (((with_reducible show wpList _ _ _ (Oper.mk _ (Op.load _ _) _ _ _ _ :: _) _ _); refine wpList_load_whole (by rfl) 36 (.tmp 12) rfl gw rfl #[.int .i64 out.k, .int .i64 out.n, .int .i64 out.x, .slice A13 out.bs.length c13] aggFr rfl _ (B14W.out.below hC B14W.out.lt) ?_))
            exact ⟨rfl, rfl, (Below.refl _ _), rfl⟩
          · intro uF W hC' hU aF hF
            have hC : Below u14.heap.size u14 W := hC'
            clear hC'
            have h119 : (Det (.agg #[.int .i64 out.k, .int .i64 out.n, .int .i64 out.x, .slice Aa out.bs.length ca])) (uF 26) W := hU.1
            have h120 : (Det (.agg #[.int .i64 out.k, .int .i64 out.n, .int .i64 out.x, .slice A13 out.bs.length c13])) (uF 27) W := hU.2.1
            have h115 : (Det (.bool true)) (uF 22) W := hU.2.2.1
            clear hU
            simp only [puts, Act.put, List.setIfInBounds_toArray, List.set_cons_zero, List.set_cons_succ] at hF
            generalize uF 26 = x119 at h119 hF
            generalize uF 27 = x120 at h120 hF
            generalize uF 22 = x115 at h115 hF
            obtain rfl : x119 = (.agg #[.int .i64 out.k, .int .i64 out.n, .int .i64 out.x, .slice Aa out.bs.length ca]) := h119
            obtain rfl : x120 = (.agg #[.int .i64 out.k, .int .i64 out.n, .int .i64 out.x, .slice A13 out.bs.length c13]) := h120
            obtain rfl : x115 = (.bool true) := h115
            subst hF
            go_wp2_with ((go_at_call 25; refine (same17_c out.k out.n out.x (OwB.below HO9.out hC).sl (OwB.below HO13.out hC).sl (Nat.le_refl _) (Nat.le_refl _)).mono ?_; rintro e W1 ⟨rfl, hb⟩))
            exact ⟨rfl, rfl, hb, rfl⟩
          · intro uF W hC' hU aF hF
            have hC : Below u14.heap.size u14 W := hC'
            clear hC'
            have h121 : (Det (.bool true)) (uF 28) W := hU.1
            have h115 : (Det (.bool true)) (uF 22) W := hU.2.1
            clear hU
            simp only [puts, Act.put, List.setIfInBounds_toArray, List.set_cons_zero, List.set_cons_succ] at hF
            generalize uF 28 = x121 at h121 hF
            generalize uF 22 = x115 at h115 hF
            obtain rfl : x121 = (.bool true) := h121
            obtain rfl : x115 = (.bool true) := h115
            subst hF
            go_wp2_with (fail)
            exact ⟨rfl, rfl, (Below.refl _ _), rfl⟩
          · intro uF W hC' hU aF hF
            have hC : Below u14.heap.size u14 W := hC'
            clear hC'
            have h115 : (Det (.bool true)) (uF 22) W := hU.1
            have h122 : (Det (.bool false)) (uF 29) W := hU.2.1
            have h113 : (Det (.bool false)) (uF 20) W := hU.2.2.1
            clear hU
            simp only [puts, Act.put, List.setIfInBounds_toArray, List.set_cons_zero, List.set_cons_succ] at hF
            generalize uF 22 = x115 at h115 hF
            generalize uF 29 = x122 at h122 hF
            generalize uF 20 = x113 at h113 hF
            obtain rfl : x115 = (.bool true) := h115
            obtain rfl : x122 = (.bool false) := h122
            obtain rfl : x113 = (.bool false) := h113
            subst hF
            go_wp2_with (fail)
            exact ⟨rfl, rfl, (Below.refl _ _), rfl⟩
          · intro uF W hC' hU aF hF
            have hC : Below u14.heap.size u14 W := hC'
            clear hC'
            have h113 : (Det (.bool false)) (uF 20) W := hU.1
            have h123 : (Det (.bool false)) (uF 30) W := hU.2.1
            clear hU
            simp only [puts, Act.put, List.setIfInBounds_toArray, List.set_cons_zero, List.set_cons_succ] at hF
            generalize uF 20 = x113 at h113 hF
            generalize uF 30 = x123 at h123 hF
            obtain rfl : x113 = (.bool false) := h113
            obtain rfl : x123 = (.bool false) := h123
            subst hF
            go_wp2_with (fail)
            exact ⟨rfl, rfl, (Below.refl _ _), rfl⟩
          · intro uF W hC' hU aF hF
            have hC : Below u14.heap.size u14 W := hC'
            clear hC'
            have h124 : (Det (.bool false)) (uF 31) W := hU.1
            clear hU
            simp only [puts, Act.put, List.setIfInBounds_toArray, List.set_cons_zero, List.set_cons_succ] at hF
            generalize uF 31 = x124 at h124 hF
            obtain rfl : x124 = (.bool false) := h124
            subst hF
            go_wp2_with (fail)
            exact ⟨rfl, rfl, (Below.refl _ _), rfl⟩
          · intro uF W hC' hU aF hF
            have hC : Below u14.heap.size u14 W := hC'
            clear hC'
            have h125 : (Det (.bool false)) (uF 32) W := hU.1
            clear hU
            simp only [puts, Act.put, List.setIfInBounds_toArray, List.set_cons_zero, List.set_cons_succ] at hF
            generalize uF 32 = x125 at h125 hF
            obtain rfl : x125 = (.bool false) := h125
            subst hF
            go_wp2_with (fail)
            exact ⟨rfl, rfl, (Below.refl _ _), rfl⟩
          · intro uF W hC' hU aF hF
            have hC : Below u14.heap.size u14 W := hC'
            clear hC'
            have h126 : (Det (.pointer (some ⟨gt, 1, none⟩))) (uF 33) W := hU.1
            have h125 : (Det (.bool false)) (uF 32) W := hU.2.1
            clear hU
            simp only [puts, Act.put, List.setIfInBounds_toArray, List.set_cons_zero, List.set_cons_succ] at hF
            generalize uF 33 = x126 at h126 hF
            generalize uF 32 = x125 at h125 hF
            obtain rfl : x126 = (.pointer (some ⟨gt, 1, none⟩)) := h126
            obtain rfl : x125 = (.bool false) := h125
            subst hF
            have d1 : W.cell? ⟨gt, 1, none⟩ = some (.bool out.drew) := by rw [(BTD.out.below hC BTD.out.lt).cell]; rfl
            go_wp2_with (fail)
            exact ⟨rfl, rfl, (Below.refl _ _), rfl⟩
          · intro uF W hC' hU aF hF
            have hC : Below u14.heap.size u14 W := hC'
            clear hC'
            have h125 : (Det (.bool false)) (uF 32) W := hU.1
            clear hU
            simp only [puts, Act.put, List.setIfInBounds_toArray, List.set_cons_zero, List.set_cons_succ] at hF
            generalize uF 32 = x125 at h125 hF
            obtain rfl : x125 = (.bool false) := h125
            subst hF
            go_wp2_with (fail)
            exact ⟨rfl, rfl, (Below.refl _ _), rfl⟩
          · intro uF W hC' hU aF hF
            have hC : Below u14.heap.size u14 W := hC'
            clear hC'
            have h127 : (Det (.bool out.drew)) (uF 34) W := hU.1
            have h128 : (Det (.bool out.drew)) (uF 35) W := hU.2.1
            have h125 : (Det (.bool false)) (uF 32) W := hU.2.2.1
            clear hU
            simp only [puts, Act.put, List.setIfInBounds_toArray, List.set_cons_zero, List.set_cons_succ] at hF
            generalize uF 34 = x127 at h127 hF
            generalize uF 35 = x128 at h128 hF
            generalize uF 32 = x125 at h125 hF
            obtain rfl : x127 = (.bool out.drew) := h127
            obtain rfl : x128 = (.bool out.drew) := h128
            obtain rfl : x125 = (.bool false) := h125
            subst hF
            go_wp2_with (fail)
            exact ⟨rfl, rfl, (Below.refl _ _), rfl⟩
          · intro uF W hC' hU aF hF
            have hC : Below u14.heap.size u14 W := hC'
            clear hC'
            have h125 : (Det (.bool false)) (uF 32) W := hU.1
            have h129 : (Det (.bool false)) (uF 36) W := hU.2.1
            clear hU
            simp only [puts, Act.put, List.setIfInBounds_toArray, List.set_cons_zero, List.set_cons_succ] at hF
            generalize uF 32 = x125 at h125 hF
            generalize uF 36 = x129 at h129 hF
            obtain rfl : x125 = (.bool false) := h125
            obtain rfl : x129 = (.bool false) := h129
            subst hF
            go_wp2_with (fail)
            exact ⟨rfl, rfl, (Below.refl _ _), rfl⟩
          · intro uF W hC' hU aF hF
            have hC : Below u14.heap.size u14 W := hC'
            clear hC'
            have h130 : (Det (.bool false)) (uF 37) W := hU.1
            clear hU
            simp only [puts, Act.put, List.setIfInBounds_toArray, List.set_cons_zero, List.set_cons_succ] at hF
            generalize uF 37 = x130 at h130 hF
            obtain rfl : x130 = (.bool false) := h130
            subst hF
            go_wp2_with (fail)
            exact ⟨rfl, rfl, (Below.refl _ _), rfl⟩
          · intro uF W hC' hU aF hF
            have hC : Below u14.heap.size u14 W := hC'
            clear hC'
            have h131 : (Det (.bool false)) (uF 38) W := hU.1
            clear hU
            simp only [puts, Act.put, List.setIfInBounds_toArray, List.set_cons_zero, List.set_cons_succ] at hF
            generalize uF 38 = x131 at h131 hF
            obtain rfl : x131 = (.bool false) := h131
            subst hF
            go_wp2_with (fail)
            exact ⟨rfl, rfl, (Below.refl _ _), rfl⟩
          · intro uF W hC' hU aF hF
            have hC : Below u14.heap.size u14 W := hC'
            clear hC'
            have h132 : (Det (.pointer (some ⟨gt, 2, none⟩))) (uF 39) W := hU.1
            have h131 : (Det (.bool false)) (uF 38) W := hU.2.1
            clear hU
            simp only [puts, Act.put, List.setIfInBounds_toArray, List.set_cons_zero, List.set_cons_succ] at hF
            generalize uF 39 = x132 at h132 hF
            generalize uF 38 = x131 at h131 hF
            obtain rfl : x132 = (.pointer (some ⟨gt, 2, none⟩)) := h132
            obtain rfl : x131 = (.bool false) := h131
            subst hF
            have d1 : W.cell? ⟨gt, 2, none⟩ = some (.bool out.taken) := by rw [(BTD.out.below hC BTD.out.lt).cell]; rfl
            go_wp2_with (fail)
            exact ⟨rfl, rfl, (Below.refl _ _), rfl⟩
          · intro uF W hC' hU aF hF
            have hC : Below u14.heap.size u14 W := hC'
            clear hC'
            have h131 : (Det (.bool false)) (uF 38) W := hU.1
            clear hU
            simp only [puts, Act.put, List.setIfInBounds_toArray, List.set_cons_zero, List.set_cons_succ] at hF
            generalize uF 38 = x131 at h131 hF
            obtain rfl : x131 = (.bool false) := h131
            subst hF
            go_wp2_with (fail)
            exact ⟨rfl, rfl, (Below.refl _ _), rfl⟩
          · intro uF W hC' hU aF hF
            have hC : Below u14.heap.size u14 W := hC'
            clear hC'
            have h133 : (Det (.bool out.taken)) (uF 40) W := hU.1
            have h134 : (Det (.bool out.taken)) (uF 41) W := hU.2.1
            have h131 : (Det (.bool false)) (uF 38) W := hU.2.2.1
            clear hU
            simp only [puts, Act.put, List.setIfInBounds_toArray, List.set_cons_zero, List.set_cons_succ] at hF
            generalize uF 40 = x133 at h133 hF
            generalize uF 41 = x134 at h134 hF
            generalize uF 38 = x131 at h131 hF
            obtain rfl : x133 = (.bool out.taken) := h133
            obtain rfl : x134 = (.bool out.taken) := h134
            obtain rfl : x131 = (.bool false) := h131
            subst hF
            go_wp2_with (fail)
            exact ⟨rfl, rfl, (Below.refl _ _), rfl⟩
          · intro uF W hC' hU aF hF
            have hC : Below u14.heap.size u14 W := hC'
            clear hC'
            have h131 : (Det (.bool false)) (uF 38) W := hU.1
            have h135 : (Det (.bool false)) (uF 42) W := hU.2.1
            clear hU
            simp only [puts, Act.put, List.setIfInBounds_toArray, List.set_cons_zero, List.set_cons_succ] at hF
            generalize uF 38 = x131 at h131 hF
            generalize uF 42 = x135 at h135 hF
            obtain rfl : x131 = (.bool false) := h131
            obtain rfl : x135 = (.bool false) := h135
            subst hF
            go_wp2_with (fail)
            exact ⟨rfl, rfl, (Below.refl _ _), rfl⟩
        intro uF W15 hC' hU aF hF
        have hCW15 : Below u14.heap.size u14 W15 := hC'
        clear hC'
        have h136 : (Det (.bool false)) (uF 43) W15 := hU.2.2.2.2.2.2.2.2.2.2.2.2.2.2.2.2.2.2.2.2.2.2.2.2.2.2.2.2.2.2.2.2.2.2.2.2.2.2.2.2.2.2.2.1
        clear hU
        simp only [puts, Act.put, List.setIfInBounds_toArray, List.set_cons_zero, List.set_cons_succ] at hF
        generalize uF 0 = x93 at hF
        generalize uF 1 = x94 at hF
        generalize uF 2 = x95 at hF
        generalize uF 3 = x96 at hF
        generalize uF 4 = x97 at hF
        generalize uF 5 = x98 at hF
        generalize uF 6 = x99 at hF
        generalize uF 7 = x100 at hF
        generalize uF 8 = x101 at hF
        generalize uF 9 = x102 at hF
        generalize uF 10 = x103 at hF
        generalize uF 11 = x104 at hF
        generalize uF 12 = x105 at hF
        generalize uF 13 = x106 at hF
        generalize uF 14 = x107 at hF
        generalize uF 15 = x108 at hF
        generalize uF 16 = x109 at hF
        generalize uF 17 = x110 at hF
        generalize uF 18 = x111 at hF
        generalize uF 19 = x112 at hF
        generalize uF 20 = x113 at hF
        generalize uF 21 = x114 at hF
        generalize uF 22 = x115 at hF
        generalize uF 23 = x116 at hF
        generalize uF 24 = x117 at hF
        generalize uF 25 = x118 at hF
        generalize uF 26 = x119 at hF
        generalize uF 27 = x120 at hF
        generalize uF 28 = x121 at hF
        generalize uF 29 = x122 at hF
        generalize uF 30 = x123 at hF
        generalize uF 31 = x124 at hF
        generalize uF 32 = x125 at hF
        generalize uF 33 = x126 at hF
        generalize uF 34 = x127 at hF
        generalize uF 35 = x128 at hF
        generalize uF 36 = x129 at hF
        generalize uF 37 = x130 at hF
        generalize uF 38 = x131 at hF
        generalize uF 39 = x132 at hF
        generalize uF 40 = x133 at hF
        generalize uF 41 = x134 at hF
        generalize uF 42 = x135 at hF
        generalize uF 43 = x136 at h136 hF
        obtain rfl : x136 = (.bool false) := h136
        subst hF
        cases hdr : out.drew with
        | true =>
          have h2 : s1.st ≠ 2 := by have := (HDRW.out hdr).2; omega
          have HZ := Lib.hid (show (if s1.st = 2 then s1.nx else 0) = 0 by rw [if_neg h2])
          have s2n : (s1.st != 2) = true := by simpa using h2
          have hss : (s1.st != s1.st) = false := by simp
          have hgg0 : ((s1.gr : Int) != (s1.gr : Int)) = false := by simp
          have hzz : (0 != (0 : Int)) = false := by simp
          have hz15 := hCW15.size
          have HEE := Lib.hid (HED.out.below hCW15)
          have B4E := Lib.hid (B4D.out.below hCW15 B4D.out.lt)
          have B6E := Lib.hid (B6D.out.below hCW15 B6D.out.lt)
          have BCE := Lib.hid (BCD.out.below hCW15 BCD.out.lt)
          have HBME := Lib.hid (HBMD.out.below hCW15 HBMD.out.lt)
          have HCME := Lib.hid (HCMD.out.below hCW15)
          have HWE := Lib.hid (HWD.out.trans (hCW15.mono hcmz))
          have hb2e : b2 ≤ W15.heap.size := Nat.le_trans hb2d hz15
          have hwe := HWE.out.size
          (try rw [hdr])
          clear h2 hdr HED B4D B6D BCD HBMD HCMD HWD hCW15 hdd0 htt0
          go_wp2_with (first
            | ((with_reducible show wpList _ _ _ (Oper.mk (some 138) (Op.load 38 (.tmp 8)) _ _ _ _ :: _) _ _); refine wpList_load_whole (by rfl) 38 (.tmp 8) rfl g6 rfl #[.int .i64 o.k, .int .i64 o.n, .int .i64 o.x, .slice o.A o.m o.c, .int .i64 o.d, .bool o.o] aggOp rfl _ B6E.out ?_)
            | (go_at_call 13; refine (draw_c _ _ _ o.d _ _ _ _ W15).mono ?_; rintro e wa ⟨rfl, hba⟩; rw [← HDD.out]; have hza := hba.size; have ba4 := B4E.out.below hba B4E.out.lt)
            | ((with_reducible show wpList _ _ _ (Oper.mk none (Op.store 34 (.tmp 6) _) _ _ _ _ :: _) _ _); refine wpList_store8 rfl 34 (.tmp 6) (.tmp 139) rfl g4 rfl dd rfl agg44 HDL.out _ _ ba4 (by rw [size_arr8]; exact HEL.out) ?_; intro wb bb4 qb sb; have HEB := Lib.hid ((HEE.out.below hba).sumStep ba4 qb); have hfab : Fr [g4] wa wb := Fr.of1 qb; have B4B := Lib.hid bb4; have BCB := Lib.hid ((BCE.out.below hba BCE.out.lt).grown qb (by simpa using HGN4)); have HBMB := Lib.hid ((HBME.out.below hba HBME.out.lt).grown qb (by simpa using HGM4)); have HCMB := Lib.hid ((HCME.out.below hba).fr hfab (by simp) (fun g hg => by obtain rfl := List.mem_singleton.1 hg; exact wrote_ne (HCME.out.below hba).row ba4 (by decide))); have HWB := Lib.hid ((HWE.out.trans (hba.mono hwe)).grown qb (by omega) (fun k hk => by cases hk; exact hgw4)); have hb2b : b2 ≤ wb.heap.size := Nat.le_trans hb2e (Nat.le_trans hza hfab.1); have HMDB := Lib.hid (HMD.out wb HCMB.out HBMB.out HWB.out); have e4b : wb.cell? ⟨gm, 4, none⟩ = some (.slice A83 N1 C83) := (by rw [HBMB.out.cell]; rfl); clear sb qb bb4 hfab)
            | (go_at_call 26; have hsr := state_r N1 (Nat.le_refl _) HMDB.out; rw [HTK.out, HS1.out] at hsr; refine hsr.mono ?_; rintro e wc ⟨rfl, hbc⟩))
          have HEW := Lib.hid (HEB.out.below hbc)
          have HBMW := Lib.hid (HBMB.out.below hbc HBMB.out.lt)
          have HMDW := Lib.hid (HMDB.out.below hbc)
          refine wp_region_rel (fun W W' => Below W.heap.size W W') (fun W => Below wc.heap.size wc W)
            [Det (.pointer (some ⟨gs, 0, none⟩)), Det (.int .i64 s1.st), Det (.int .i64 s1.st), Det (.bool false), Det (.bool false), Det (.pointer (some ⟨gs, 0, none⟩)), Det (.int .i64 0), Det (.int .i64 0), Det (.bool false), Det (.bool false), Det (.bool false), Det (.pointer (some ⟨gs, 0, none⟩)), Det (.int .i64 (s1.gr : Int)), Det (.pointer (some ⟨gm, 0, none⟩)), Det (.pointer (some ⟨gm, 0, none⟩)), Det (.pointer (some ⟨gm, 0, none⟩)), Det (.pointer (some ⟨gm, 4, none⟩)), Det (.slice A83 N1 C83), Det (.int .i64 (N1 : Int)), Det (.int .i64 (s1.gr : Int)), Det (.bool false), Det (.bool false)]
            [[], [(0, some 152)], [], [(1, some 153), (2, some 154)], [(3, some 155)], [(4, some 156)], [(5, some 157), (4, some 156)], [(4, some 156)], [(6, some 158), (7, some 159), (4, some 156)], [(4, some 156), (8, some 160)], [(9, some 161)], [(10, some 162)], [(11, some 163), (10, some 162)], [(10, some 162)], [(10, some 162)], [(14, some 166), (10, some 162)], [(15, some 167), (10, some 162)], [(16, some 168), (10, some 162)], [(17, some 169), (10, some 162)], [(13, some 165), (18, some 170), (10, some 162)], [(12, some 164), (19, some 171), (10, some 162)], [(10, some 162), (20, some 172)]]
            [[], [0], [], [0, 1, 2], [0, 1, 2, 3], [0, 1, 2, 3, 4], [0, 1, 2, 3, 4, 5], [0, 1, 2, 3, 4], [0, 1, 2, 3, 4, 5, 6, 7], [0, 1, 2, 3, 4, 5, 6, 7, 8], [0, 1, 2, 3, 4, 5, 6, 7, 8, 9], [0, 1, 2, 3, 4, 5, 6, 7, 8, 9, 10], [0, 1, 2, 3, 4, 5, 6, 7, 8, 9, 10, 11], [0, 1, 2, 3, 4, 5, 6, 7, 8, 9, 10], [0, 1, 2, 3, 4, 5, 6, 7, 8, 9, 10], [0, 1, 2, 3, 4, 5, 6, 7, 8, 9, 10, 14], [0, 1, 2, 3, 4, 5, 6, 7, 8, 9, 10, 14, 15], [0, 1, 2, 3, 4, 5, 6, 7, 8, 9, 10, 14, 15, 16], [0, 1, 2, 3, 4, 5, 6, 7, 8, 9, 10, 14, 15, 16, 17], [0, 1, 2, 3, 4, 5, 6, 7, 8, 9, 10, 11, 12, 13, 14, 15, 16, 17, 18], [0, 1, 2, 3, 4, 5, 6, 7, 8, 9, 10, 11, 12, 13, 14, 15, 16, 17, 18, 19], [0, 1, 2, 3, 4, 5, 6, 7, 8, 9, 10, 11, 12, 13, 14, 15, 16, 17, 18, 19, 20]]
            [(0, some 152), (1, some 153), (2, some 154), (3, some 155), (4, some 156), (5, some 157), (6, some 158), (7, some 159), (8, some 160), (9, some 161), (10, some 162), (11, some 163), (12, some 164), (13, some 165), (14, some 166), (15, some 167), (16, some 168), (17, some 169), (18, some 170), (19, some 171), (20, some 172), (21, some 173)] (by kernel_rfl) (by kernel_rfl) (fun W W' h1 h2 => h1.trans (h2.mono h1.size)) ((Below.refl _ _).drew) ?_ ?_ ?_
          · exact (AllMono.cons Det.later (AllMono.cons Det.later (AllMono.cons Det.later (AllMono.cons Det.later (AllMono.cons Det.later (AllMono.cons Det.later (AllMono.cons Det.later (AllMono.cons Det.later (AllMono.cons Det.later (AllMono.cons Det.later (AllMono.cons Det.later (AllMono.cons Det.later (AllMono.cons Det.later (AllMono.cons Det.later (AllMono.cons Det.later (AllMono.cons Det.later (AllMono.cons Det.later (AllMono.cons Det.later (AllMono.cons Det.later (AllMono.cons Det.later (AllMono.cons Det.later (AllMono.cons Det.later AllMono.nil))))))))))))))))))))))
          · refine AllOb.cons ?_ (AllOb.cons ?_ (AllOb.cons ?_ (AllOb.cons ?_ (AllOb.cons ?_ (AllOb.cons ?_ (AllOb.cons ?_ (AllOb.cons ?_ (AllOb.cons ?_ (AllOb.cons ?_ (AllOb.cons ?_ (AllOb.cons ?_ (AllOb.cons ?_ (AllOb.cons ?_ (AllOb.cons ?_ (AllOb.cons ?_ (AllOb.cons ?_ (AllOb.cons ?_ (AllOb.cons ?_ (AllOb.cons ?_ (AllOb.cons ?_ (AllOb.cons ?_ (AllOb.nil))))))))))))))))))))))
            · intro uF W hC' hU aF hF
              have hC : Below wc.heap.size wc W := hC'
              clear hC'
              simp only [puts] at hF
              subst hF
              go_wp2_with (fail)
              exact ⟨rfl, rfl, (Below.refl _ _), rfl⟩
            · intro uF W hC' hU aF hF
              have hC : Below wc.heap.size wc W := hC'
              clear hC'
              have h152 : (Det (.pointer (some ⟨gs, 0, none⟩))) (uF 0) W := hU.1
              clear hU
              simp only [puts, Act.put, List.setIfInBounds_toArray, List.set_cons_zero, List.set_cons_succ] at hF
              generalize uF 0 = x152 at h152 hF
              obtain rfl : x152 = (.pointer (some ⟨gs, 0, none⟩)) := h152
              subst hF
              go_wp2_with ((go_at_call 15; refine (state_c (HEW.out.below hC)).mono ?_; rintro e W1 ⟨rfl, rfl⟩))
              exact ⟨rfl, rfl, (Below.refl _ _), rfl⟩
            · intro uF W hC' hU aF hF
              have hC : Below wc.heap.size wc W := hC'
              clear hC'
              simp only [puts] at hF
              subst hF
              go_wp2_with (fail)
              exact ⟨rfl, rfl, (Below.refl _ _), rfl⟩
            · intro uF W hC' hU aF hF
              have hC : Below wc.heap.size wc W := hC'
              clear hC'
              have h153 : (Det (.int .i64 s1.st)) (uF 1) W := hU.1
              have h154 : (Det (.int .i64 s1.st)) (uF 2) W := hU.2.1
              clear hU
              simp only [puts, Act.put, List.setIfInBounds_toArray, List.set_cons_zero, List.set_cons_succ] at hF
              generalize uF 1 = x153 at h153 hF
              generalize uF 2 = x154 at h154 hF
              obtain rfl : x153 = (.int .i64 s1.st) := h153
              obtain rfl : x154 = (.int .i64 s1.st) := h154
              subst hF
              go_wp2_with (fail)
              exact ⟨rfl, rfl, (Below.refl _ _), rfl⟩
            · intro uF W hC' hU aF hF
              have hC : Below wc.heap.size wc W := hC'
              clear hC'
              have h155 : (Det (.bool false)) (uF 3) W := hU.1
              clear hU
              simp only [puts, Act.put, List.setIfInBounds_toArray, List.set_cons_zero, List.set_cons_succ] at hF
              generalize uF 3 = x155 at h155 hF
              obtain rfl : x155 = (.bool false) := h155
              subst hF
              go_wp2_with (fail)
              exact ⟨rfl, rfl, (Below.refl _ _), rfl⟩
            · intro uF W hC' hU aF hF
              have hC : Below wc.heap.size wc W := hC'
              clear hC'
              have h156 : (Det (.bool false)) (uF 4) W := hU.1
              clear hU
              simp only [puts, Act.put, List.setIfInBounds_toArray, List.set_cons_zero, List.set_cons_succ] at hF
              generalize uF 4 = x156 at h156 hF
              obtain rfl : x156 = (.bool false) := h156
              subst hF
              go_wp2_with (fail)
              exact ⟨rfl, rfl, (Below.refl _ _), rfl⟩
            · intro uF W hC' hU aF hF
              have hC : Below wc.heap.size wc W := hC'
              clear hC'
              have h157 : (Det (.pointer (some ⟨gs, 0, none⟩))) (uF 5) W := hU.1
              have h156 : (Det (.bool false)) (uF 4) W := hU.2.1
              clear hU
              simp only [puts, Act.put, List.setIfInBounds_toArray, List.set_cons_zero, List.set_cons_succ] at hF
              generalize uF 5 = x157 at h157 hF
              generalize uF 4 = x156 at h156 hF
              obtain rfl : x157 = (.pointer (some ⟨gs, 0, none⟩)) := h157
              obtain rfl : x156 = (.bool false) := h156
              subst hF
              go_wp2_with ((go_at_call 16; refine (next_c (HEW.out.below hC) 0 HZ.out).mono ?_; rintro e W1 ⟨rfl, rfl⟩))
              exact ⟨rfl, rfl, (Below.refl _ _), rfl⟩
            · intro uF W hC' hU aF hF
              have hC : Below wc.heap.size wc W := hC'
              clear hC'
              have h156 : (Det (.bool false)) (uF 4) W := hU.1
              clear hU
              simp only [puts, Act.put, List.setIfInBounds_toArray, List.set_cons_zero, List.set_cons_succ] at hF
              generalize uF 4 = x156 at h156 hF
              obtain rfl : x156 = (.bool false) := h156
              subst hF
              go_wp2_with (fail)
              exact ⟨rfl, rfl, (Below.refl _ _), rfl⟩
            · intro uF W hC' hU aF hF
              have hC : Below wc.heap.size wc W := hC'
              clear hC'
              have h158 : (Det (.int .i64 0)) (uF 6) W := hU.1
              have h159 : (Det (.int .i64 0)) (uF 7) W := hU.2.1
              have h156 : (Det (.bool false)) (uF 4) W := hU.2.2.1
              clear hU
              simp only [puts, Act.put, List.setIfInBounds_toArray, List.set_cons_zero, List.set_cons_succ] at hF
              generalize uF 6 = x158 at h158 hF
              generalize uF 7 = x159 at h159 hF
              generalize uF 4 = x156 at h156 hF
              obtain rfl : x158 = (.int .i64 0) := h158
              obtain rfl : x159 = (.int .i64 0) := h159
              obtain rfl : x156 = (.bool false) := h156
              subst hF
              go_wp2_with (fail)
              exact ⟨rfl, rfl, (Below.refl _ _), rfl⟩
            · intro uF W hC' hU aF hF
              have hC : Below wc.heap.size wc W := hC'
              clear hC'
              have h156 : (Det (.bool false)) (uF 4) W := hU.1
              have h160 : (Det (.bool false)) (uF 8) W := hU.2.1
              clear hU
              simp only [puts, Act.put, List.setIfInBounds_toArray, List.set_cons_zero, List.set_cons_succ] at hF
              generalize uF 4 = x156 at h156 hF
              generalize uF 8 = x160 at h160 hF
              obtain rfl : x156 = (.bool false) := h156
              obtain rfl : x160 = (.bool false) := h160
              subst hF
              go_wp2_with (fail)
              exact ⟨rfl, rfl, (Below.refl _ _), rfl⟩
            · intro uF W hC' hU aF hF
              have hC : Below wc.heap.size wc W := hC'
              clear hC'
              have h161 : (Det (.bool false)) (uF 9) W := hU.1
              clear hU
              simp only [puts, Act.put, List.setIfInBounds_toArray, List.set_cons_zero, List.set_cons_succ] at hF
              generalize uF 9 = x161 at h161 hF
              obtain rfl : x161 = (.bool false) := h161
              subst hF
              go_wp2_with (fail)
              exact ⟨rfl, rfl, (Below.refl _ _), rfl⟩
            · intro uF W hC' hU aF hF
              have hC : Below wc.heap.size wc W := hC'
              clear hC'
              have h162 : (Det (.bool false)) (uF 10) W := hU.1
              clear hU
              simp only [puts, Act.put, List.setIfInBounds_toArray, List.set_cons_zero, List.set_cons_succ] at hF
              generalize uF 10 = x162 at h162 hF
              obtain rfl : x162 = (.bool false) := h162
              subst hF
              go_wp2_with (fail)
              exact ⟨rfl, rfl, (Below.refl _ _), rfl⟩
            · intro uF W hC' hU aF hF
              have hC : Below wc.heap.size wc W := hC'
              clear hC'
              have h163 : (Det (.pointer (some ⟨gs, 0, none⟩))) (uF 11) W := hU.1
              have h162 : (Det (.bool false)) (uF 10) W := hU.2.1
              clear hU
              simp only [puts, Act.put, List.setIfInBounds_toArray, List.set_cons_zero, List.set_cons_succ] at hF
              generalize uF 11 = x163 at h163 hF
              generalize uF 10 = x162 at h162 hF
              obtain rfl : x163 = (.pointer (some ⟨gs, 0, none⟩)) := h163
              obtain rfl : x162 = (.bool false) := h162
              subst hF
              go_wp2_with ((go_at_call 22; refine (greeted_c (HEW.out.below hC)).mono ?_; rintro e W1 ⟨rfl, rfl⟩))
              exact ⟨rfl, rfl, (Below.refl _ _), rfl⟩
            · intro uF W hC' hU aF hF
              have hC : Below wc.heap.size wc W := hC'
              clear hC'
              have h162 : (Det (.bool false)) (uF 10) W := hU.1
              clear hU
              simp only [puts, Act.put, List.setIfInBounds_toArray, List.set_cons_zero, List.set_cons_succ] at hF
              generalize uF 10 = x162 at h162 hF
              obtain rfl : x162 = (.bool false) := h162
              subst hF
              go_wp2_with (fail)
              exact ⟨rfl, rfl, (Below.refl _ _), rfl⟩
            · intro uF W hC' hU aF hF
              have hC : Below wc.heap.size wc W := hC'
              clear hC'
              have h162 : (Det (.bool false)) (uF 10) W := hU.1
              clear hU
              simp only [puts, Act.put, List.setIfInBounds_toArray, List.set_cons_zero, List.set_cons_succ] at hF
              generalize uF 10 = x162 at h162 hF
              obtain rfl : x162 = (.bool false) := h162
              subst hF
              go_wp2_with (fail)
              exact ⟨rfl, rfl, (Below.refl _ _), rfl⟩
            · intro uF W hC' hU aF hF
              have hC : Below wc.heap.size wc W := hC'
              clear hC'
              have h166 : (Det (.pointer (some ⟨gm, 0, none⟩))) (uF 14) W := hU.1
              have h162 : (Det (.bool false)) (uF 10) W := hU.2.1
              clear hU
              simp only [puts, Act.put, List.setIfInBounds_toArray, List.set_cons_zero, List.set_cons_succ] at hF
              generalize uF 14 = x166 at h166 hF
              generalize uF 10 = x162 at h162 hF
              obtain rfl : x166 = (.pointer (some ⟨gm, 0, none⟩)) := h166
              obtain rfl : x162 = (.bool false) := h162
              subst hF
              go_wp2_with (fail)
              exact ⟨rfl, rfl, (Below.refl _ _), rfl⟩
            · intro uF W hC' hU aF hF
              have hC : Below wc.heap.size wc W := hC'
              clear hC'
              have h167 : (Det (.pointer (some ⟨gm, 0, none⟩))) (uF 15) W := hU.1
              have h162 : (Det (.bool false)) (uF 10) W := hU.2.1
              clear hU
              simp only [puts, Act.put, List.setIfInBounds_toArray, List.set_cons_zero, List.set_cons_succ] at hF
              generalize uF 15 = x167 at h167 hF
              generalize uF 10 = x162 at h162 hF
              obtain rfl : x167 = (.pointer (some ⟨gm, 0, none⟩)) := h167
              obtain rfl : x162 = (.bool false) := h162
              subst hF
              go_wp2_with (fail)
              exact ⟨rfl, rfl, (Below.refl _ _), rfl⟩
            · intro uF W hC' hU aF hF
              have hC : Below wc.heap.size wc W := hC'
              clear hC'
              have h168 : (Det (.pointer (some ⟨gm, 4, none⟩))) (uF 16) W := hU.1
              have h162 : (Det (.bool false)) (uF 10) W := hU.2.1
              clear hU
              simp only [puts, Act.put, List.setIfInBounds_toArray, List.set_cons_zero, List.set_cons_succ] at hF
              generalize uF 16 = x168 at h168 hF
              generalize uF 10 = x162 at h162 hF
              obtain rfl : x168 = (.pointer (some ⟨gm, 4, none⟩)) := h168
              obtain rfl : x162 = (.bool false) := h162
              subst hF
              have d1 : W.cell? ⟨gm, 4, none⟩ = some (.slice A83 N1 C83) := by rw [(HBMW.out.below hC HBMW.out.lt).cell]; rfl
              go_wp2_with (fail)
              exact ⟨rfl, rfl, (Below.refl _ _), rfl⟩
            · intro uF W hC' hU aF hF
              have hC : Below wc.heap.size wc W := hC'
              clear hC'
              have h169 : (Det (.slice A83 N1 C83)) (uF 17) W := hU.1
              have h162 : (Det (.bool false)) (uF 10) W := hU.2.1
              clear hU
              simp only [puts, Act.put, List.setIfInBounds_toArray, List.set_cons_zero, List.set_cons_succ] at hF
              generalize uF 17 = x169 at h169 hF
              generalize uF 10 = x162 at h162 hF
              obtain rfl : x169 = (.slice A83 N1 C83) := h169
              obtain rfl : x162 = (.bool false) := h162
              subst hF
              go_wp2_with (fail)
              exact ⟨rfl, rfl, (Below.refl _ _), rfl⟩
            · intro uF W hC' hU aF hF
              have hC : Below wc.heap.size wc W := hC'
              clear hC'
              have h165 : (Det (.pointer (some ⟨gm, 0, none⟩))) (uF 13) W := hU.1
              have h170 : (Det (.int .i64 (N1 : Int))) (uF 18) W := hU.2.1
              have h162 : (Det (.bool false)) (uF 10) W := hU.2.2.1
              clear hU
              simp only [puts, Act.put, List.setIfInBounds_toArray, List.set_cons_zero, List.set_cons_succ] at hF
              generalize uF 13 = x165 at h165 hF
              generalize uF 18 = x170 at h170 hF
              generalize uF 10 = x162 at h162 hF
              obtain rfl : x165 = (.pointer (some ⟨gm, 0, none⟩)) := h165
              obtain rfl : x170 = (.int .i64 (N1 : Int)) := h170
              obtain rfl : x162 = (.bool false) := h162
              subst hF
              go_wp2_with ((go_at_call 27; have hgg := greeted_r (HMDW.out.below hC) N1 (Nat.le_refl _); rw [HTK.out, HS1.out] at hgg; refine hgg.mono ?_; rintro e W1 ⟨rfl, hb⟩))
              exact ⟨rfl, rfl, hb, rfl⟩
            · intro uF W hC' hU aF hF
              have hC : Below wc.heap.size wc W := hC'
              clear hC'
              have h164 : (Det (.int .i64 (s1.gr : Int))) (uF 12) W := hU.1
              have h171 : (Det (.int .i64 (s1.gr : Int))) (uF 19) W := hU.2.1
              have h162 : (Det (.bool false)) (uF 10) W := hU.2.2.1
              clear hU
              simp only [puts, Act.put, List.setIfInBounds_toArray, List.set_cons_zero, List.set_cons_succ] at hF
              generalize uF 12 = x164 at h164 hF
              generalize uF 19 = x171 at h171 hF
              generalize uF 10 = x162 at h162 hF
              obtain rfl : x164 = (.int .i64 (s1.gr : Int)) := h164
              obtain rfl : x171 = (.int .i64 (s1.gr : Int)) := h171
              obtain rfl : x162 = (.bool false) := h162
              subst hF
              go_wp2_with (fail)
              exact ⟨rfl, rfl, (Below.refl _ _), rfl⟩
            · intro uF W hC' hU aF hF
              have hC : Below wc.heap.size wc W := hC'
              clear hC'
              have h162 : (Det (.bool false)) (uF 10) W := hU.1
              have h172 : (Det (.bool false)) (uF 20) W := hU.2.1
              clear hU
              simp only [puts, Act.put, List.setIfInBounds_toArray, List.set_cons_zero, List.set_cons_succ] at hF
              generalize uF 10 = x162 at h162 hF
              generalize uF 20 = x172 at h172 hF
              obtain rfl : x162 = (.bool false) := h162
              obtain rfl : x172 = (.bool false) := h172
              subst hF
              go_wp2_with (fail)
              exact ⟨rfl, rfl, (Below.refl _ _), rfl⟩
          intro uF WZ hC' hU aF hF
          have hCWZ : Below wc.heap.size wc WZ := hC'
          clear hC'
          have h173 : (Det (.bool false)) (uF 21) WZ := hU.2.2.2.2.2.2.2.2.2.2.2.2.2.2.2.2.2.2.2.2.2.1
          clear hU
          simp only [puts, Act.put, List.setIfInBounds_toArray, List.set_cons_zero, List.set_cons_succ] at hF
          generalize uF 0 = x152 at hF
          generalize uF 1 = x153 at hF
          generalize uF 2 = x154 at hF
          generalize uF 3 = x155 at hF
          generalize uF 4 = x156 at hF
          generalize uF 5 = x157 at hF
          generalize uF 6 = x158 at hF
          generalize uF 7 = x159 at hF
          generalize uF 8 = x160 at hF
          generalize uF 9 = x161 at hF
          generalize uF 10 = x162 at hF
          generalize uF 11 = x163 at hF
          generalize uF 12 = x164 at hF
          generalize uF 13 = x165 at hF
          generalize uF 14 = x166 at hF
          generalize uF 15 = x167 at hF
          generalize uF 16 = x168 at hF
          generalize uF 17 = x169 at hF
          generalize uF 18 = x170 at hF
          generalize uF 19 = x171 at hF
          generalize uF 20 = x172 at hF
          generalize uF 21 = x173 at h173 hF
          obtain rfl : x173 = (.bool false) := h173
          subst hF
          go_wp2_with fail
          have hb := hbc.trans (hCWZ.mono hbc.size)
          have hN := HN1.out
          have hbd := hbnd.out
          have hgr9 := HGR.out
          have hnx9 := HNX.out
          have hl1 := HLEN1.out
          subst hN
          exact ⟨⟨i + 1, s1, dd, A83, C83, cs ++ [cv], by omega, by go_num, by omega, ⟨hbd.2.1, by omega⟩, HDL.out, ⟨hl1, HS1.out, Nat.le_trans hb2b hb.size⟩, HEB.out.below hb, B4B.out.below hb B4B.out.lt, BCB.out.below hb BCB.out.lt, HBMB.out.below hb HBMB.out.lt, HCMB.out.below hb, HWB.out.trans (hb.mono HWB.out.size)⟩, by simp [intOf]; omega⟩
        | false =>
          by_cases h2 : s1.st = 2
          · skip
            have HZ := Lib.hid (show (if s1.st = 2 then s1.nx else 0) = (nxr s1) by rfl)
            have s2n : (s1.st != 2) = false := by simp [h2]
            have hss : (s1.st != s1.st) = false := by simp
            have hgg0 : ((s1.gr : Int) != (s1.gr : Int)) = false := by simp
            have hzz : ((nxr s1) != ((nxr s1) : Int)) = false := by simp
            have hz15 := hCW15.size
            have HEE := Lib.hid (HED.out.below hCW15)
            have B4E := Lib.hid (B4D.out.below hCW15 B4D.out.lt)
            have B6E := Lib.hid (B6D.out.below hCW15 B6D.out.lt)
            have BCE := Lib.hid (BCD.out.below hCW15 BCD.out.lt)
            have HBME := Lib.hid (HBMD.out.below hCW15 HBMD.out.lt)
            have HCME := Lib.hid (HCMD.out.below hCW15)
            have HWE := Lib.hid (HWD.out.trans (hCW15.mono hcmz))
            have hb2e : b2 ≤ W15.heap.size := Nat.le_trans hb2d hz15
            have hwe := HWE.out.size
            (try rw [hdr])
            clear h2 hdr HED B4D B6D BCD HBMD HCMD HWD hCW15 hdd0 htt0
            have HEB := HEE
            have B4B := B4E
            have BCB := BCE
            have HBMB := HBME
            have HCMB := HCME
            have HWB := HWE
            have hb2b := hb2e
            have HMDB := Lib.hid (HMD.out W15 HCMB.out HBMB.out HWB.out)
            have e4b : W15.cell? ⟨gm, 4, none⟩ = some (.slice A83 N1 C83) := by rw [HBMB.out.cell]; rfl
            go_wp2_with (go_at_call 26; have hsr := state_r N1 (Nat.le_refl _) HMDB.out; rw [HTK.out, HS1.out] at hsr; refine hsr.mono ?_; rintro e wc ⟨rfl, hbc⟩)
            have HEW := Lib.hid (HEB.out.below hbc)
            have HBMW := Lib.hid (HBMB.out.below hbc HBMB.out.lt)
            have HMDW := Lib.hid (HMDB.out.below hbc)
            refine wp_region_rel (fun W W' => Below W.heap.size W W') (fun W => Below wc.heap.size wc W)
              [Det (.pointer (some ⟨gs, 0, none⟩)), Det (.int .i64 s1.st), Det (.int .i64 s1.st), Det (.bool false), Det (.bool false), Det (.pointer (some ⟨gs, 0, none⟩)), Det (.int .i64 (nxr s1)), Det (.int .i64 (nxr s1)), Det (.bool false), Det (.bool false), Det (.bool false), Det (.pointer (some ⟨gs, 0, none⟩)), Det (.int .i64 (s1.gr : Int)), Det (.pointer (some ⟨gm, 0, none⟩)), Det (.pointer (some ⟨gm, 0, none⟩)), Det (.pointer (some ⟨gm, 0, none⟩)), Det (.pointer (some ⟨gm, 4, none⟩)), Det (.slice A83 N1 C83), Det (.int .i64 (N1 : Int)), Det (.int .i64 (s1.gr : Int)), Det (.bool false), Det (.bool false)]
              [[], [(0, some 152)], [], [(1, some 153), (2, some 154)], [(3, some 155)], [(4, some 156)], [(5, some 157), (4, some 156)], [(4, some 156)], [(6, some 158), (7, some 159), (4, some 156)], [(4, some 156), (8, some 160)], [(9, some 161)], [(10, some 162)], [(11, some 163), (10, some 162)], [(10, some 162)], [(10, some 162)], [(14, some 166), (10, some 162)], [(15, some 167), (10, some 162)], [(16, some 168), (10, some 162)], [(17, some 169), (10, some 162)], [(13, some 165), (18, some 170), (10, some 162)], [(12, some 164), (19, some 171), (10, some 162)], [(10, some 162), (20, some 172)]]
              [[], [0], [], [0, 1, 2], [0, 1, 2, 3], [0, 1, 2, 3, 4], [0, 1, 2, 3, 4, 5], [0, 1, 2, 3, 4], [0, 1, 2, 3, 4, 5, 6, 7], [0, 1, 2, 3, 4, 5, 6, 7, 8], [0, 1, 2, 3, 4, 5, 6, 7, 8, 9], [0, 1, 2, 3, 4, 5, 6, 7, 8, 9, 10], [0, 1, 2, 3, 4, 5, 6, 7, 8, 9, 10, 11], [0, 1, 2, 3, 4, 5, 6, 7, 8, 9, 10], [0, 1, 2, 3, 4, 5, 6, 7, 8, 9, 10], [0, 1, 2, 3, 4, 5, 6, 7, 8, 9, 10, 14], [0, 1, 2, 3, 4, 5, 6, 7, 8, 9, 10, 14, 15], [0, 1, 2, 3, 4, 5, 6, 7, 8, 9, 10, 14, 15, 16], [0, 1, 2, 3, 4, 5, 6, 7, 8, 9, 10, 14, 15, 16, 17], [0, 1, 2, 3, 4, 5, 6, 7, 8, 9, 10, 11, 12, 13, 14, 15, 16, 17, 18], [0, 1, 2, 3, 4, 5, 6, 7, 8, 9, 10, 11, 12, 13, 14, 15, 16, 17, 18, 19], [0, 1, 2, 3, 4, 5, 6, 7, 8, 9, 10, 11, 12, 13, 14, 15, 16, 17, 18, 19, 20]]
              [(0, some 152), (1, some 153), (2, some 154), (3, some 155), (4, some 156), (5, some 157), (6, some 158), (7, some 159), (8, some 160), (9, some 161), (10, some 162), (11, some 163), (12, some 164), (13, some 165), (14, some 166), (15, some 167), (16, some 168), (17, some 169), (18, some 170), (19, some 171), (20, some 172), (21, some 173)] (by kernel_rfl) (by kernel_rfl) (fun W W' h1 h2 => h1.trans (h2.mono h1.size)) ((Below.refl _ _).drew) ?_ ?_ ?_
            · exact (AllMono.cons Det.later (AllMono.cons Det.later (AllMono.cons Det.later (AllMono.cons Det.later (AllMono.cons Det.later (AllMono.cons Det.later (AllMono.cons Det.later (AllMono.cons Det.later (AllMono.cons Det.later (AllMono.cons Det.later (AllMono.cons Det.later (AllMono.cons Det.later (AllMono.cons Det.later (AllMono.cons Det.later (AllMono.cons Det.later (AllMono.cons Det.later (AllMono.cons Det.later (AllMono.cons Det.later (AllMono.cons Det.later (AllMono.cons Det.later (AllMono.cons Det.later (AllMono.cons Det.later AllMono.nil))))))))))))))))))))))
            · refine AllOb.cons ?_ (AllOb.cons ?_ (AllOb.cons ?_ (AllOb.cons ?_ (AllOb.cons ?_ (AllOb.cons ?_ (AllOb.cons ?_ (AllOb.cons ?_ (AllOb.cons ?_ (AllOb.cons ?_ (AllOb.cons ?_ (AllOb.cons ?_ (AllOb.cons ?_ (AllOb.cons ?_ (AllOb.cons ?_ (AllOb.cons ?_ (AllOb.cons ?_ (AllOb.cons ?_ (AllOb.cons ?_ (AllOb.cons ?_ (AllOb.cons ?_ (AllOb.cons ?_ (AllOb.nil))))))))))))))))))))))
              · intro uF W hC' hU aF hF
                have hC : Below wc.heap.size wc W := hC'
                clear hC'
                simp only [puts] at hF
                subst hF
                go_wp2_with (fail)
                exact ⟨rfl, rfl, (Below.refl _ _), rfl⟩
              · intro uF W hC' hU aF hF
                have hC : Below wc.heap.size wc W := hC'
                clear hC'
                have h152 : (Det (.pointer (some ⟨gs, 0, none⟩))) (uF 0) W := hU.1
                clear hU
                simp only [puts, Act.put, List.setIfInBounds_toArray, List.set_cons_zero, List.set_cons_succ] at hF
                generalize uF 0 = x152 at h152 hF
                obtain rfl : x152 = (.pointer (some ⟨gs, 0, none⟩)) := h152
                subst hF
                go_wp2_with ((go_at_call 15; refine (state_c (HEW.out.below hC)).mono ?_; rintro e W1 ⟨rfl, rfl⟩))
                exact ⟨rfl, rfl, (Below.refl _ _), rfl⟩
              · intro uF W hC' hU aF hF
                have hC : Below wc.heap.size wc W := hC'
                clear hC'
                simp only [puts] at hF
                subst hF
                go_wp2_with (fail)
                exact ⟨rfl, rfl, (Below.refl _ _), rfl⟩
              · intro uF W hC' hU aF hF
                have hC : Below wc.heap.size wc W := hC'
                clear hC'
                have h153 : (Det (.int .i64 s1.st)) (uF 1) W := hU.1
                have h154 : (Det (.int .i64 s1.st)) (uF 2) W := hU.2.1
                clear hU
                simp only [puts, Act.put, List.setIfInBounds_toArray, List.set_cons_zero, List.set_cons_succ] at hF
                generalize uF 1 = x153 at h153 hF
                generalize uF 2 = x154 at h154 hF
                obtain rfl : x153 = (.int .i64 s1.st) := h153
                obtain rfl : x154 = (.int .i64 s1.st) := h154
                subst hF
                go_wp2_with (fail)
                exact ⟨rfl, rfl, (Below.refl _ _), rfl⟩
              · intro uF W hC' hU aF hF
                have hC : Below wc.heap.size wc W := hC'
                clear hC'
                have h155 : (Det (.bool false)) (uF 3) W := hU.1
                clear hU
                simp only [puts, Act.put, List.setIfInBounds_toArray, List.set_cons_zero, List.set_cons_succ] at hF
                generalize uF 3 = x155 at h155 hF
                obtain rfl : x155 = (.bool false) := h155
                subst hF
                go_wp2_with (fail)
                exact ⟨rfl, rfl, (Below.refl _ _), rfl⟩
              · intro uF W hC' hU aF hF
                have hC : Below wc.heap.size wc W := hC'
                clear hC'
                have h156 : (Det (.bool false)) (uF 4) W := hU.1
                clear hU
                simp only [puts, Act.put, List.setIfInBounds_toArray, List.set_cons_zero, List.set_cons_succ] at hF
                generalize uF 4 = x156 at h156 hF
                obtain rfl : x156 = (.bool false) := h156
                subst hF
                go_wp2_with (fail)
                exact ⟨rfl, rfl, (Below.refl _ _), rfl⟩
              · intro uF W hC' hU aF hF
                have hC : Below wc.heap.size wc W := hC'
                clear hC'
                have h157 : (Det (.pointer (some ⟨gs, 0, none⟩))) (uF 5) W := hU.1
                have h156 : (Det (.bool false)) (uF 4) W := hU.2.1
                clear hU
                simp only [puts, Act.put, List.setIfInBounds_toArray, List.set_cons_zero, List.set_cons_succ] at hF
                generalize uF 5 = x157 at h157 hF
                generalize uF 4 = x156 at h156 hF
                obtain rfl : x157 = (.pointer (some ⟨gs, 0, none⟩)) := h157
                obtain rfl : x156 = (.bool false) := h156
                subst hF
                go_wp2_with ((go_at_call 16; refine (next_c (HEW.out.below hC) (nxr s1) HZ.out).mono ?_; rintro e W1 ⟨rfl, rfl⟩))
                exact ⟨rfl, rfl, (Below.refl _ _), rfl⟩
              · intro uF W hC' hU aF hF
                have hC : Below wc.heap.size wc W := hC'
                clear hC'
                have h156 : (Det (.bool false)) (uF 4) W := hU.1
                clear hU
                simp only [puts, Act.put, List.setIfInBounds_toArray, List.set_cons_zero, List.set_cons_succ] at hF
                generalize uF 4 = x156 at h156 hF
                obtain rfl : x156 = (.bool false) := h156
                subst hF
                go_wp2_with (fail)
                exact ⟨rfl, rfl, (Below.refl _ _), rfl⟩
              · intro uF W hC' hU aF hF
                have hC : Below wc.heap.size wc W := hC'
                clear hC'
                have h158 : (Det (.int .i64 (nxr s1))) (uF 6) W := hU.1
                have h159 : (Det (.int .i64 (nxr s1))) (uF 7) W := hU.2.1
                have h156 : (Det (.bool false)) (uF 4) W := hU.2.2.1
                clear hU
                simp only [puts, Act.put, List.setIfInBounds_toArray, List.set_cons_zero, List.set_cons_succ] at hF
                generalize uF 6 = x158 at h158 hF
                generalize uF 7 = x159 at h159 hF
                generalize uF 4 = x156 at h156 hF
                obtain rfl : x158 = (.int .i64 (nxr s1)) := h158
                obtain rfl : x159 = (.int .i64 (nxr s1)) := h159
                obtain rfl : x156 = (.bool false) := h156
                subst hF
                go_wp2_with (fail)
                exact ⟨rfl, rfl, (Below.refl _ _), rfl⟩
              · intro uF W hC' hU aF hF
                have hC : Below wc.heap.size wc W := hC'
                clear hC'
                have h156 : (Det (.bool false)) (uF 4) W := hU.1
                have h160 : (Det (.bool false)) (uF 8) W := hU.2.1
                clear hU
                simp only [puts, Act.put, List.setIfInBounds_toArray, List.set_cons_zero, List.set_cons_succ] at hF
                generalize uF 4 = x156 at h156 hF
                generalize uF 8 = x160 at h160 hF
                obtain rfl : x156 = (.bool false) := h156
                obtain rfl : x160 = (.bool false) := h160
                subst hF
                go_wp2_with (fail)
                exact ⟨rfl, rfl, (Below.refl _ _), rfl⟩
              · intro uF W hC' hU aF hF
                have hC : Below wc.heap.size wc W := hC'
                clear hC'
                have h161 : (Det (.bool false)) (uF 9) W := hU.1
                clear hU
                simp only [puts, Act.put, List.setIfInBounds_toArray, List.set_cons_zero, List.set_cons_succ] at hF
                generalize uF 9 = x161 at h161 hF
                obtain rfl : x161 = (.bool false) := h161
                subst hF
                go_wp2_with (fail)
                exact ⟨rfl, rfl, (Below.refl _ _), rfl⟩
              · intro uF W hC' hU aF hF
                have hC : Below wc.heap.size wc W := hC'
                clear hC'
                have h162 : (Det (.bool false)) (uF 10) W := hU.1
                clear hU
                simp only [puts, Act.put, List.setIfInBounds_toArray, List.set_cons_zero, List.set_cons_succ] at hF
                generalize uF 10 = x162 at h162 hF
                obtain rfl : x162 = (.bool false) := h162
                subst hF
                go_wp2_with (fail)
                exact ⟨rfl, rfl, (Below.refl _ _), rfl⟩
              · intro uF W hC' hU aF hF
                have hC : Below wc.heap.size wc W := hC'
                clear hC'
                have h163 : (Det (.pointer (some ⟨gs, 0, none⟩))) (uF 11) W := hU.1
                have h162 : (Det (.bool false)) (uF 10) W := hU.2.1
                clear hU
                simp only [puts, Act.put, List.setIfInBounds_toArray, List.set_cons_zero, List.set_cons_succ] at hF
                generalize uF 11 = x163 at h163 hF
                generalize uF 10 = x162 at h162 hF
                obtain rfl : x163 = (.pointer (some ⟨gs, 0, none⟩)) := h163
                obtain rfl : x162 = (.bool false) := h162
                subst hF
                go_wp2_with ((go_at_call 22; refine (greeted_c (HEW.out.below hC)).mono ?_; rintro e W1 ⟨rfl, rfl⟩))
                exact ⟨rfl, rfl, (Below.refl _ _), rfl⟩
              · intro uF W hC' hU aF hF
                have hC : Below wc.heap.size wc W := hC'
                clear hC'
                have h162 : (Det (.bool false)) (uF 10) W := hU.1
                clear hU
                simp only [puts, Act.put, List.setIfInBounds_toArray, List.set_cons_zero, List.set_cons_succ] at hF
                generalize uF 10 = x162 at h162 hF
                obtain rfl : x162 = (.bool false) := h162
                subst hF
                go_wp2_with (fail)
                exact ⟨rfl, rfl, (Below.refl _ _), rfl⟩
              · intro uF W hC' hU aF hF
                have hC : Below wc.heap.size wc W := hC'
                clear hC'
                have h162 : (Det (.bool false)) (uF 10) W := hU.1
                clear hU
                simp only [puts, Act.put, List.setIfInBounds_toArray, List.set_cons_zero, List.set_cons_succ] at hF
                generalize uF 10 = x162 at h162 hF
                obtain rfl : x162 = (.bool false) := h162
                subst hF
                go_wp2_with (fail)
                exact ⟨rfl, rfl, (Below.refl _ _), rfl⟩
              · intro uF W hC' hU aF hF
                have hC : Below wc.heap.size wc W := hC'
                clear hC'
                have h166 : (Det (.pointer (some ⟨gm, 0, none⟩))) (uF 14) W := hU.1
                have h162 : (Det (.bool false)) (uF 10) W := hU.2.1
                clear hU
                simp only [puts, Act.put, List.setIfInBounds_toArray, List.set_cons_zero, List.set_cons_succ] at hF
                generalize uF 14 = x166 at h166 hF
                generalize uF 10 = x162 at h162 hF
                obtain rfl : x166 = (.pointer (some ⟨gm, 0, none⟩)) := h166
                obtain rfl : x162 = (.bool false) := h162
                subst hF
                go_wp2_with (fail)
                exact ⟨rfl, rfl, (Below.refl _ _), rfl⟩
              · intro uF W hC' hU aF hF
                have hC : Below wc.heap.size wc W := hC'
                clear hC'
                have h167 : (Det (.pointer (some ⟨gm, 0, none⟩))) (uF 15) W := hU.1
                have h162 : (Det (.bool false)) (uF 10) W := hU.2.1
                clear hU
                simp only [puts, Act.put, List.setIfInBounds_toArray, List.set_cons_zero, List.set_cons_succ] at hF
                generalize uF 15 = x167 at h167 hF
                generalize uF 10 = x162 at h162 hF
                obtain rfl : x167 = (.pointer (some ⟨gm, 0, none⟩)) := h167
                obtain rfl : x162 = (.bool false) := h162
                subst hF
                go_wp2_with (fail)
                exact ⟨rfl, rfl, (Below.refl _ _), rfl⟩
              · intro uF W hC' hU aF hF
                have hC : Below wc.heap.size wc W := hC'
                clear hC'
                have h168 : (Det (.pointer (some ⟨gm, 4, none⟩))) (uF 16) W := hU.1
                have h162 : (Det (.bool false)) (uF 10) W := hU.2.1
                clear hU
                simp only [puts, Act.put, List.setIfInBounds_toArray, List.set_cons_zero, List.set_cons_succ] at hF
                generalize uF 16 = x168 at h168 hF
                generalize uF 10 = x162 at h162 hF
                obtain rfl : x168 = (.pointer (some ⟨gm, 4, none⟩)) := h168
                obtain rfl : x162 = (.bool false) := h162
                subst hF
                have d1 : W.cell? ⟨gm, 4, none⟩ = some (.slice A83 N1 C83) := by rw [(HBMW.out.below hC HBMW.out.lt).cell]; rfl
                go_wp2_with (fail)
                exact ⟨rfl, rfl, (Below.refl _ _), rfl⟩
              · intro uF W hC' hU aF hF
                have hC : Below wc.heap.size wc W := hC'
                clear hC'
                have h169 : (Det (.slice A83 N1 C83)) (uF 17) W := hU.1
                have h162 : (Det (.bool false)) (uF 10) W := hU.2.1
                clear hU
                simp only [puts, Act.put, List.setIfInBounds_toArray, List.set_cons_zero, List.set_cons_succ] at hF
                generalize uF 17 = x169 at h169 hF
                generalize uF 10 = x162 at h162 hF
                obtain rfl : x169 = (.slice A83 N1 C83) := h169
                obtain rfl : x162 = (.bool false) := h162
                subst hF
                go_wp2_with (fail)
                exact ⟨rfl, rfl, (Below.refl _ _), rfl⟩
              · intro uF W hC' hU aF hF
                have hC : Below wc.heap.size wc W := hC'
                clear hC'
                have h165 : (Det (.pointer (some ⟨gm, 0, none⟩))) (uF 13) W := hU.1
                have h170 : (Det (.int .i64 (N1 : Int))) (uF 18) W := hU.2.1
                have h162 : (Det (.bool false)) (uF 10) W := hU.2.2.1
                clear hU
                simp only [puts, Act.put, List.setIfInBounds_toArray, List.set_cons_zero, List.set_cons_succ] at hF
                generalize uF 13 = x165 at h165 hF
                generalize uF 18 = x170 at h170 hF
                generalize uF 10 = x162 at h162 hF
                obtain rfl : x165 = (.pointer (some ⟨gm, 0, none⟩)) := h165
                obtain rfl : x170 = (.int .i64 (N1 : Int)) := h170
                obtain rfl : x162 = (.bool false) := h162
                subst hF
                go_wp2_with ((go_at_call 27; have hgg := greeted_r (HMDW.out.below hC) N1 (Nat.le_refl _); rw [HTK.out, HS1.out] at hgg; refine hgg.mono ?_; rintro e W1 ⟨rfl, hb⟩))
                exact ⟨rfl, rfl, hb, rfl⟩
              · intro uF W hC' hU aF hF
                have hC : Below wc.heap.size wc W := hC'
                clear hC'
                have h164 : (Det (.int .i64 (s1.gr : Int))) (uF 12) W := hU.1
                have h171 : (Det (.int .i64 (s1.gr : Int))) (uF 19) W := hU.2.1
                have h162 : (Det (.bool false)) (uF 10) W := hU.2.2.1
                clear hU
                simp only [puts, Act.put, List.setIfInBounds_toArray, List.set_cons_zero, List.set_cons_succ] at hF
                generalize uF 12 = x164 at h164 hF
                generalize uF 19 = x171 at h171 hF
                generalize uF 10 = x162 at h162 hF
                obtain rfl : x164 = (.int .i64 (s1.gr : Int)) := h164
                obtain rfl : x171 = (.int .i64 (s1.gr : Int)) := h171
                obtain rfl : x162 = (.bool false) := h162
                subst hF
                go_wp2_with (fail)
                exact ⟨rfl, rfl, (Below.refl _ _), rfl⟩
              · intro uF W hC' hU aF hF
                have hC : Below wc.heap.size wc W := hC'
                clear hC'
                have h162 : (Det (.bool false)) (uF 10) W := hU.1
                have h172 : (Det (.bool false)) (uF 20) W := hU.2.1
                clear hU
                simp only [puts, Act.put, List.setIfInBounds_toArray, List.set_cons_zero, List.set_cons_succ] at hF
                generalize uF 10 = x162 at h162 hF
                generalize uF 20 = x172 at h172 hF
                obtain rfl : x162 = (.bool false) := h162
                obtain rfl : x172 = (.bool false) := h172
                subst hF
                go_wp2_with (fail)
                exact ⟨rfl, rfl, (Below.refl _ _), rfl⟩
            intro uF WZ hC' hU aF hF
            have hCWZ : Below wc.heap.size wc WZ := hC'
            clear hC'
            have h173 : (Det (.bool false)) (uF 21) WZ := hU.2.2.2.2.2.2.2.2.2.2.2.2.2.2.2.2.2.2.2.2.2.1
            clear hU
            simp only [puts, Act.put, List.setIfInBounds_toArray, List.set_cons_zero, List.set_cons_succ] at hF
            generalize uF 0 = x152 at hF
            generalize uF 1 = x153 at hF
            generalize uF 2 = x154 at hF
            generalize uF 3 = x155 at hF
            generalize uF 4 = x156 at hF
            generalize uF 5 = x157 at hF
            generalize uF 6 = x158 at hF
            generalize uF 7 = x159 at hF
            generalize uF 8 = x160 at hF
            generalize uF 9 = x161 at hF
            generalize uF 10 = x162 at hF
            generalize uF 11 = x163 at hF
            generalize uF 12 = x164 at hF
            generalize uF 13 = x165 at hF
            generalize uF 14 = x166 at hF
            generalize uF 15 = x167 at hF
            generalize uF 16 = x168 at hF
            generalize uF 17 = x169 at hF
            generalize uF 18 = x170 at hF
            generalize uF 19 = x171 at hF
            generalize uF 20 = x172 at hF
            generalize uF 21 = x173 at h173 hF
            obtain rfl : x173 = (.bool false) := h173
            subst hF
            go_wp2_with fail
            have hb := hbc.trans (hCWZ.mono hbc.size)
            have hN := HN1.out
            have hbd := hbnd.out
            have hgr9 := HGR.out
            have hnx9 := HNX.out
            have hl1 := HLEN1.out
            subst hN
            exact ⟨⟨i + 1, s1, el, A83, C83, cs ++ [cv], by omega, by go_num, by omega, ⟨hbd.2.1, by omega⟩, HEL.out, ⟨hl1, HS1.out, Nat.le_trans hb2b hb.size⟩, HEB.out.below hb, B4B.out.below hb B4B.out.lt, BCB.out.below hb BCB.out.lt, HBMB.out.below hb HBMB.out.lt, HCMB.out.below hb, HWB.out.trans (hb.mono HWB.out.size)⟩, by simp [intOf]; omega⟩
          · skip
            have HZ := Lib.hid (show (if s1.st = 2 then s1.nx else 0) = 0 by rw [if_neg h2])
            have s2n : (s1.st != 2) = true := by simpa using h2
            have hss : (s1.st != s1.st) = false := by simp
            have hgg0 : ((s1.gr : Int) != (s1.gr : Int)) = false := by simp
            have hzz : (0 != (0 : Int)) = false := by simp
            have hz15 := hCW15.size
            have HEE := Lib.hid (HED.out.below hCW15)
            have B4E := Lib.hid (B4D.out.below hCW15 B4D.out.lt)
            have B6E := Lib.hid (B6D.out.below hCW15 B6D.out.lt)
            have BCE := Lib.hid (BCD.out.below hCW15 BCD.out.lt)
            have HBME := Lib.hid (HBMD.out.below hCW15 HBMD.out.lt)
            have HCME := Lib.hid (HCMD.out.below hCW15)
            have HWE := Lib.hid (HWD.out.trans (hCW15.mono hcmz))
            have hb2e : b2 ≤ W15.heap.size := Nat.le_trans hb2d hz15
            have hwe := HWE.out.size
            (try rw [hdr])
            clear h2 hdr HED B4D B6D BCD HBMD HCMD HWD hCW15 hdd0 htt0
            have HEB := HEE
            have B4B := B4E
            have BCB := BCE
            have HBMB := HBME
            have HCMB := HCME
            have HWB := HWE
            have hb2b := hb2e
            have HMDB := Lib.hid (HMD.out W15 HCMB.out HBMB.out HWB.out)
            have e4b : W15.cell? ⟨gm, 4, none⟩ = some (.slice A83 N1 C83) := by rw [HBMB.out.cell]; rfl
            go_wp2_with (go_at_call 26; have hsr := state_r N1 (Nat.le_refl _) HMDB.out; rw [HTK.out, HS1.out] at hsr; refine hsr.mono ?_; rintro e wc ⟨rfl, hbc⟩)
            have HEW := Lib.hid (HEB.out.below hbc)
            have HBMW := Lib.hid (HBMB.out.below hbc HBMB.out.lt)
            have HMDW := Lib.hid (HMDB.out.below hbc)
            refine wp_region_rel (fun W W' => Below W.heap.size W W') (fun W => Below wc.heap.size wc W)
              [Det (.pointer (some ⟨gs, 0, none⟩)), Det (.int .i64 s1.st), Det (.int .i64 s1.st), Det (.bool false), Det (.bool false), Det (.pointer (some ⟨gs, 0, none⟩)), Det (.int .i64 0), Det (.int .i64 0), Det (.bool false), Det (.bool false), Det (.bool false), Det (.pointer (some ⟨gs, 0, none⟩)), Det (.int .i64 (s1.gr : Int)), Det (.pointer (some ⟨gm, 0, none⟩)), Det (.pointer (some ⟨gm, 0, none⟩)), Det (.pointer (some ⟨gm, 0, none⟩)), Det (.pointer (some ⟨gm, 4, none⟩)), Det (.slice A83 N1 C83), Det (.int .i64 (N1 : Int)), Det (.int .i64 (s1.gr : Int)), Det (.bool false), Det (.bool false)]
              [[], [(0, some 152)], [], [(1, some 153), (2, some 154)], [(3, some 155)], [(4, some 156)], [(5, some 157), (4, some 156)], [(4, some 156)], [(6, some 158), (7, some 159), (4, some 156)], [(4, some 156), (8, some 160)], [(9, some 161)], [(10, some 162)], [(11, some 163), (10, some 162)], [(10, some 162)], [(10, some 162)], [(14, some 166), (10, some 162)], [(15, some 167), (10, some 162)], [(16, some 168), (10, some 162)], [(17, some 169), (10, some 162)], [(13, some 165), (18, some 170), (10, some 162)], [(12, some 164), (19, some 171), (10, some 162)], [(10, some 162), (20, some 172)]]
              [[], [0], [], [0, 1, 2], [0, 1, 2, 3], [0, 1, 2, 3, 4], [0, 1, 2, 3, 4, 5], [0, 1, 2, 3, 4], [0, 1, 2, 3, 4, 5, 6, 7], [0, 1, 2, 3, 4, 5, 6, 7, 8], [0, 1, 2, 3, 4, 5, 6, 7, 8, 9], [0, 1, 2, 3, 4, 5, 6, 7, 8, 9, 10], [0, 1, 2, 3, 4, 5, 6, 7, 8, 9, 10, 11], [0, 1, 2, 3, 4, 5, 6, 7, 8, 9, 10], [0, 1, 2, 3, 4, 5, 6, 7, 8, 9, 10], [0, 1, 2, 3, 4, 5, 6, 7, 8, 9, 10, 14], [0, 1, 2, 3, 4, 5, 6, 7, 8, 9, 10, 14, 15], [0, 1, 2, 3, 4, 5, 6, 7, 8, 9, 10, 14, 15, 16], [0, 1, 2, 3, 4, 5, 6, 7, 8, 9, 10, 14, 15, 16, 17], [0, 1, 2, 3, 4, 5, 6, 7, 8, 9, 10, 11, 12, 13, 14, 15, 16, 17, 18], [0, 1, 2, 3, 4, 5, 6, 7, 8, 9, 10, 11, 12, 13, 14, 15, 16, 17, 18, 19], [0, 1, 2, 3, 4, 5, 6, 7, 8, 9, 10, 11, 12, 13, 14, 15, 16, 17, 18, 19, 20]]
              [(0, some 152), (1, some 153), (2, some 154), (3, some 155), (4, some 156), (5, some 157), (6, some 158), (7, some 159), (8, some 160), (9, some 161), (10, some 162), (11, some 163), (12, some 164), (13, some 165), (14, some 166), (15, some 167), (16, some 168), (17, some 169), (18, some 170), (19, some 171), (20, some 172), (21, some 173)] (by kernel_rfl) (by kernel_rfl) (fun W W' h1 h2 => h1.trans (h2.mono h1.size)) ((Below.refl _ _).drew) ?_ ?_ ?_
            · exact (AllMono.cons Det.later (AllMono.cons Det.later (AllMono.cons Det.later (AllMono.cons Det.later (AllMono.cons Det.later (AllMono.cons Det.later (AllMono.cons Det.later (AllMono.cons Det.later (AllMono.cons Det.later (AllMono.cons Det.later (AllMono.cons Det.later (AllMono.cons Det.later (AllMono.cons Det.later (AllMono.cons Det.later (AllMono.cons Det.later (AllMono.cons Det.later (AllMono.cons Det.later (AllMono.cons Det.later (AllMono.cons Det.later (AllMono.cons Det.later (AllMono.cons Det.later (AllMono.cons Det.later AllMono.nil))))))))))))))))))))))
            · refine AllOb.cons ?_ (AllOb.cons ?_ (AllOb.cons ?_ (AllOb.cons ?_ (AllOb.cons ?_ (AllOb.cons ?_ (AllOb.cons ?_ (AllOb.cons ?_ (AllOb.cons ?_ (AllOb.cons ?_ (AllOb.cons ?_ (AllOb.cons ?_ (AllOb.cons ?_ (AllOb.cons ?_ (AllOb.cons ?_ (AllOb.cons ?_ (AllOb.cons ?_ (AllOb.cons ?_ (AllOb.cons ?_ (AllOb.cons ?_ (AllOb.cons ?_ (AllOb.cons ?_ (AllOb.nil))))))))))))))))))))))
              · intro uF W hC' hU aF hF
                have hC : Below wc.heap.size wc W := hC'
                clear hC'
                simp only [puts] at hF
                subst hF
                go_wp2_with (fail)
                exact ⟨rfl, rfl, (Below.refl _ _), rfl⟩
              · intro uF W hC' hU aF hF
                have hC : Below wc.heap.size wc W := hC'
                clear hC'
                have h152 : (Det (.pointer (some ⟨gs, 0, none⟩))) (uF 0) W := hU.1
                clear hU
                simp only [puts, Act.put, List.setIfInBounds_toArray, List.set_cons_zero, List.set_cons_succ] at hF
                generalize uF 0 = x152 at h152 hF
                obtain rfl : x152 = (.pointer (some ⟨gs, 0, none⟩)) := h152
                subst hF
                go_wp2_with ((go_at_call 15; refine (state_c (HEW.out.below hC)).mono ?_; rintro e W1 ⟨rfl, rfl⟩))
                exact ⟨rfl, rfl, (Below.refl _ _), rfl⟩
              · intro uF W hC' hU aF hF
                have hC : Below wc.heap.size wc W := hC'
                clear hC'
                simp only [puts] at hF
                subst hF
                go_wp2_with (fail)
                exact ⟨rfl, rfl, (Below.refl _ _), rfl⟩
              · intro uF W hC' hU aF hF
                have hC : Below wc.heap.size wc W := hC'
                clear hC'
                have h153 : (Det (.int .i64 s1.st)) (uF 1) W := hU.1
                have h154 : (Det (.int .i64 s1.st)) (uF 2) W := hU.2.1
                clear hU
                simp only [puts, Act.put, List.setIfInBounds_toArray, List.set_cons_zero, List.set_cons_succ] at hF
                generalize uF 1 = x153 at h153 hF
                generalize uF 2 = x154 at h154 hF
                obtain rfl : x153 = (.int .i64 s1.st) := h153
                obtain rfl : x154 = (.int .i64 s1.st) := h154
                subst hF
                go_wp2_with (fail)
                exact ⟨rfl, rfl, (Below.refl _ _), rfl⟩
              · intro uF W hC' hU aF hF
                have hC : Below wc.heap.size wc W := hC'
                clear hC'
                have h155 : (Det (.bool false)) (uF 3) W := hU.1
                clear hU
                simp only [puts, Act.put, List.setIfInBounds_toArray, List.set_cons_zero, List.set_cons_succ] at hF
                generalize uF 3 = x155 at h155 hF
                obtain rfl : x155 = (.bool false) := h155
                subst hF
                go_wp2_with (fail)
                exact ⟨rfl, rfl, (Below.refl _ _), rfl⟩
              · intro uF W hC' hU aF hF
                have hC : Below wc.heap.size wc W := hC'
                clear hC'
                have h156 : (Det (.bool false)) (uF 4) W := hU.1
                clear hU
                simp only [puts, Act.put, List.setIfInBounds_toArray, List.set_cons_zero, List.set_cons_succ] at hF
                generalize uF 4 = x156 at h156 hF
                obtain rfl : x156 = (.bool false) := h156
                subst hF
                go_wp2_with (fail)
                exact ⟨rfl, rfl, (Below.refl _ _), rfl⟩
              · intro uF W hC' hU aF hF
                have hC : Below wc.heap.size wc W := hC'
                clear hC'
                have h157 : (Det (.pointer (some ⟨gs, 0, none⟩))) (uF 5) W := hU.1
                have h156 : (Det (.bool false)) (uF 4) W := hU.2.1
                clear hU
                simp only [puts, Act.put, List.setIfInBounds_toArray, List.set_cons_zero, List.set_cons_succ] at hF
                generalize uF 5 = x157 at h157 hF
                generalize uF 4 = x156 at h156 hF
                obtain rfl : x157 = (.pointer (some ⟨gs, 0, none⟩)) := h157
                obtain rfl : x156 = (.bool false) := h156
                subst hF
                go_wp2_with ((go_at_call 16; refine (next_c (HEW.out.below hC) 0 HZ.out).mono ?_; rintro e W1 ⟨rfl, rfl⟩))
                exact ⟨rfl, rfl, (Below.refl _ _), rfl⟩
              · intro uF W hC' hU aF hF
                have hC : Below wc.heap.size wc W := hC'
                clear hC'
                have h156 : (Det (.bool false)) (uF 4) W := hU.1
                clear hU
                simp only [puts, Act.put, List.setIfInBounds_toArray, List.set_cons_zero, List.set_cons_succ] at hF
                generalize uF 4 = x156 at h156 hF
                obtain rfl : x156 = (.bool false) := h156
                subst hF
                go_wp2_with (fail)
                exact ⟨rfl, rfl, (Below.refl _ _), rfl⟩
              · intro uF W hC' hU aF hF
                have hC : Below wc.heap.size wc W := hC'
                clear hC'
                have h158 : (Det (.int .i64 0)) (uF 6) W := hU.1
                have h159 : (Det (.int .i64 0)) (uF 7) W := hU.2.1
                have h156 : (Det (.bool false)) (uF 4) W := hU.2.2.1
                clear hU
                simp only [puts, Act.put, List.setIfInBounds_toArray, List.set_cons_zero, List.set_cons_succ] at hF
                generalize uF 6 = x158 at h158 hF
                generalize uF 7 = x159 at h159 hF
                generalize uF 4 = x156 at h156 hF
                obtain rfl : x158 = (.int .i64 0) := h158
                obtain rfl : x159 = (.int .i64 0) := h159
                obtain rfl : x156 = (.bool false) := h156
                subst hF
                go_wp2_with (fail)
                exact ⟨rfl, rfl, (Below.refl _ _), rfl⟩
              · intro uF W hC' hU aF hF
                have hC : Below wc.heap.size wc W := hC'
                clear hC'
                have h156 : (Det (.bool false)) (uF 4) W := hU.1
                have h160 : (Det (.bool false)) (uF 8) W := hU.2.1
                clear hU
                simp only [puts, Act.put, List.setIfInBounds_toArray, List.set_cons_zero, List.set_cons_succ] at hF
                generalize uF 4 = x156 at h156 hF
                generalize uF 8 = x160 at h160 hF
                obtain rfl : x156 = (.bool false) := h156
                obtain rfl : x160 = (.bool false) := h160
                subst hF
                go_wp2_with (fail)
                exact ⟨rfl, rfl, (Below.refl _ _), rfl⟩
              · intro uF W hC' hU aF hF
                have hC : Below wc.heap.size wc W := hC'
                clear hC'
                have h161 : (Det (.bool false)) (uF 9) W := hU.1
                clear hU
                simp only [puts, Act.put, List.setIfInBounds_toArray, List.set_cons_zero, List.set_cons_succ] at hF
                generalize uF 9 = x161 at h161 hF
                obtain rfl : x161 = (.bool false) := h161
                subst hF
                go_wp2_with (fail)
                exact ⟨rfl, rfl, (Below.refl _ _), rfl⟩
              · intro uF W hC' hU aF hF
                have hC : Below wc.heap.size wc W := hC'
                clear hC'
                have h162 : (Det (.bool false)) (uF 10) W := hU.1
                clear hU
                simp only [puts, Act.put, List.setIfInBounds_toArray, List.set_cons_zero, List.set_cons_succ] at hF
                generalize uF 10 = x162 at h162 hF
                obtain rfl : x162 = (.bool false) := h162
                subst hF
                go_wp2_with (fail)
                exact ⟨rfl, rfl, (Below.refl _ _), rfl⟩
              · intro uF W hC' hU aF hF
                have hC : Below wc.heap.size wc W := hC'
                clear hC'
                have h163 : (Det (.pointer (some ⟨gs, 0, none⟩))) (uF 11) W := hU.1
                have h162 : (Det (.bool false)) (uF 10) W := hU.2.1
                clear hU
                simp only [puts, Act.put, List.setIfInBounds_toArray, List.set_cons_zero, List.set_cons_succ] at hF
                generalize uF 11 = x163 at h163 hF
                generalize uF 10 = x162 at h162 hF
                obtain rfl : x163 = (.pointer (some ⟨gs, 0, none⟩)) := h163
                obtain rfl : x162 = (.bool false) := h162
                subst hF
                go_wp2_with ((go_at_call 22; refine (greeted_c (HEW.out.below hC)).mono ?_; rintro e W1 ⟨rfl, rfl⟩))
                exact ⟨rfl, rfl, (Below.refl _ _), rfl⟩
              · intro uF W hC' hU aF hF
                have hC : Below wc.heap.size wc W := hC'
                clear hC'
                have h162 : (Det (.bool false)) (uF 10) W := hU.1
                clear hU
                simp only [puts, Act.put, List.setIfInBounds_toArray, List.set_cons_zero, List.set_cons_succ] at hF
                generalize uF 10 = x162 at h162 hF
                obtain rfl : x162 = (.bool false) := h162
                subst hF
                go_wp2_with (fail)
                exact ⟨rfl, rfl, (Below.refl _ _), rfl⟩
              · intro uF W hC' hU aF hF
                have hC : Below wc.heap.size wc W := hC'
                clear hC'
                have h162 : (Det (.bool false)) (uF 10) W := hU.1
                clear hU
                simp only [puts, Act.put, List.setIfInBounds_toArray, List.set_cons_zero, List.set_cons_succ] at hF
                generalize uF 10 = x162 at h162 hF
                obtain rfl : x162 = (.bool false) := h162
                subst hF
                go_wp2_with (fail)
                exact ⟨rfl, rfl, (Below.refl _ _), rfl⟩
              · intro uF W hC' hU aF hF
                have hC : Below wc.heap.size wc W := hC'
                clear hC'
                have h166 : (Det (.pointer (some ⟨gm, 0, none⟩))) (uF 14) W := hU.1
                have h162 : (Det (.bool false)) (uF 10) W := hU.2.1
                clear hU
                simp only [puts, Act.put, List.setIfInBounds_toArray, List.set_cons_zero, List.set_cons_succ] at hF
                generalize uF 14 = x166 at h166 hF
                generalize uF 10 = x162 at h162 hF
                obtain rfl : x166 = (.pointer (some ⟨gm, 0, none⟩)) := h166
                obtain rfl : x162 = (.bool false) := h162
                subst hF
                go_wp2_with (fail)
                exact ⟨rfl, rfl, (Below.refl _ _), rfl⟩
              · intro uF W hC' hU aF hF
                have hC : Below wc.heap.size wc W := hC'
                clear hC'
                have h167 : (Det (.pointer (some ⟨gm, 0, none⟩))) (uF 15) W := hU.1
                have h162 : (Det (.bool false)) (uF 10) W := hU.2.1
                clear hU
                simp only [puts, Act.put, List.setIfInBounds_toArray, List.set_cons_zero, List.set_cons_succ] at hF
                generalize uF 15 = x167 at h167 hF
                generalize uF 10 = x162 at h162 hF
                obtain rfl : x167 = (.pointer (some ⟨gm, 0, none⟩)) := h167
                obtain rfl : x162 = (.bool false) := h162
                subst hF
                go_wp2_with (fail)
                exact ⟨rfl, rfl, (Below.refl _ _), rfl⟩
              · intro uF W hC' hU aF hF
                have hC : Below wc.heap.size wc W := hC'
                clear hC'
                have h168 : (Det (.pointer (some ⟨gm, 4, none⟩))) (uF 16) W := hU.1
                have h162 : (Det (.bool false)) (uF 10) W := hU.2.1
                clear hU
                simp only [puts, Act.put, List.setIfInBounds_toArray, List.set_cons_zero, List.set_cons_succ] at hF
                generalize uF 16 = x168 at h168 hF
                generalize uF 10 = x162 at h162 hF
                obtain rfl : x168 = (.pointer (some ⟨gm, 4, none⟩)) := h168
                obtain rfl : x162 = (.bool false) := h162
                subst hF
                have d1 : W.cell? ⟨gm, 4, none⟩ = some (.slice A83 N1 C83) := by rw [(HBMW.out.below hC HBMW.out.lt).cell]; rfl
                go_wp2_with (fail)
                exact ⟨rfl, rfl, (Below.refl _ _), rfl⟩
              · intro uF W hC' hU aF hF
                have hC : Below wc.heap.size wc W := hC'
                clear hC'
                have h169 : (Det (.slice A83 N1 C83)) (uF 17) W := hU.1
                have h162 : (Det (.bool false)) (uF 10) W := hU.2.1
                clear hU
                simp only [puts, Act.put, List.setIfInBounds_toArray, List.set_cons_zero, List.set_cons_succ] at hF
                generalize uF 17 = x169 at h169 hF
                generalize uF 10 = x162 at h162 hF
                obtain rfl : x169 = (.slice A83 N1 C83) := h169
                obtain rfl : x162 = (.bool false) := h162
                subst hF
                go_wp2_with (fail)
                exact ⟨rfl, rfl, (Below.refl _ _), rfl⟩
              · intro uF W hC' hU aF hF
                have hC : Below wc.heap.size wc W := hC'
                clear hC'
                have h165 : (Det (.pointer (some ⟨gm, 0, none⟩))) (uF 13) W := hU.1
                have h170 : (Det (.int .i64 (N1 : Int))) (uF 18) W := hU.2.1
                have h162 : (Det (.bool false)) (uF 10) W := hU.2.2.1
                clear hU
                simp only [puts, Act.put, List.setIfInBounds_toArray, List.set_cons_zero, List.set_cons_succ] at hF
                generalize uF 13 = x165 at h165 hF
                generalize uF 18 = x170 at h170 hF
                generalize uF 10 = x162 at h162 hF
                obtain rfl : x165 = (.pointer (some ⟨gm, 0, none⟩)) := h165
                obtain rfl : x170 = (.int .i64 (N1 : Int)) := h170
                obtain rfl : x162 = (.bool false) := h162
                subst hF
                go_wp2_with ((go_at_call 27; have hgg := greeted_r (HMDW.out.below hC) N1 (Nat.le_refl _); rw [HTK.out, HS1.out] at hgg; refine hgg.mono ?_; rintro e W1 ⟨rfl, hb⟩))
                exact ⟨rfl, rfl, hb, rfl⟩
              · intro uF W hC' hU aF hF
                have hC : Below wc.heap.size wc W := hC'
                clear hC'
                have h164 : (Det (.int .i64 (s1.gr : Int))) (uF 12) W := hU.1
                have h171 : (Det (.int .i64 (s1.gr : Int))) (uF 19) W := hU.2.1
                have h162 : (Det (.bool false)) (uF 10) W := hU.2.2.1
                clear hU
                simp only [puts, Act.put, List.setIfInBounds_toArray, List.set_cons_zero, List.set_cons_succ] at hF
                generalize uF 12 = x164 at h164 hF
                generalize uF 19 = x171 at h171 hF
                generalize uF 10 = x162 at h162 hF
                obtain rfl : x164 = (.int .i64 (s1.gr : Int)) := h164
                obtain rfl : x171 = (.int .i64 (s1.gr : Int)) := h171
                obtain rfl : x162 = (.bool false) := h162
                subst hF
                go_wp2_with (fail)
                exact ⟨rfl, rfl, (Below.refl _ _), rfl⟩
              · intro uF W hC' hU aF hF
                have hC : Below wc.heap.size wc W := hC'
                clear hC'
                have h162 : (Det (.bool false)) (uF 10) W := hU.1
                have h172 : (Det (.bool false)) (uF 20) W := hU.2.1
                clear hU
                simp only [puts, Act.put, List.setIfInBounds_toArray, List.set_cons_zero, List.set_cons_succ] at hF
                generalize uF 10 = x162 at h162 hF
                generalize uF 20 = x172 at h172 hF
                obtain rfl : x162 = (.bool false) := h162
                obtain rfl : x172 = (.bool false) := h172
                subst hF
                go_wp2_with (fail)
                exact ⟨rfl, rfl, (Below.refl _ _), rfl⟩
            intro uF WZ hC' hU aF hF
            have hCWZ : Below wc.heap.size wc WZ := hC'
            clear hC'
            have h173 : (Det (.bool false)) (uF 21) WZ := hU.2.2.2.2.2.2.2.2.2.2.2.2.2.2.2.2.2.2.2.2.2.1
            clear hU
            simp only [puts, Act.put, List.setIfInBounds_toArray, List.set_cons_zero, List.set_cons_succ] at hF
            generalize uF 0 = x152 at hF
            generalize uF 1 = x153 at hF
            generalize uF 2 = x154 at hF
            generalize uF 3 = x155 at hF
            generalize uF 4 = x156 at hF
            generalize uF 5 = x157 at hF
            generalize uF 6 = x158 at hF
            generalize uF 7 = x159 at hF
            generalize uF 8 = x160 at hF
            generalize uF 9 = x161 at hF
            generalize uF 10 = x162 at hF
            generalize uF 11 = x163 at hF
            generalize uF 12 = x164 at hF
            generalize uF 13 = x165 at hF
            generalize uF 14 = x166 at hF
            generalize uF 15 = x167 at hF
            generalize uF 16 = x168 at hF
            generalize uF 17 = x169 at hF
            generalize uF 18 = x170 at hF
            generalize uF 19 = x171 at hF
            generalize uF 20 = x172 at hF
            generalize uF 21 = x173 at h173 hF
            obtain rfl : x173 = (.bool false) := h173
            subst hF
            go_wp2_with fail
            have hb := hbc.trans (hCWZ.mono hbc.size)
            have hN := HN1.out
            have hbd := hbnd.out
            have hgr9 := HGR.out
            have hnx9 := HNX.out
            have hl1 := HLEN1.out
            subst hN
            exact ⟨⟨i + 1, s1, el, A83, C83, cs ++ [cv], by omega, by go_num, by omega, ⟨hbd.2.1, by omega⟩, HEL.out, ⟨hl1, HS1.out, Nat.le_trans hb2b hb.size⟩, HEB.out.below hb, B4B.out.below hb B4B.out.lt, BCB.out.below hb BCB.out.lt, HBMB.out.below hb HBMB.out.lt, HCMB.out.below hb, HWB.out.trans (hb.mono HWB.out.size)⟩, by simp [intOf]; omega⟩
      | false =>
        have hdrf : out.drew = false := by
          cases hd : out.drew with
          | false => rfl
          | true => have := (HDRW.out hd).1; rw [hhas] at this; cases this
        obtain ⟨-, e9⟩ := HSVD.out.resolve_left (fun h => by rw [hhas] at h; exact absurd h.1 (by simp))
        simp only [Value.agg.injEq, Array.mk.injEq, List.cons.injEq, Value.slice.injEq, and_true] at e9
        obtain ⟨rfl, rfl, rfl⟩ := e9
        refine wp_region_rel (fun W W' => Below W.heap.size W W') (fun W => Below u14.heap.size u14 W)
          [Det (.pointer (some ⟨ga, 3, none⟩)), Det (.slice (some ⟨gk, 0, none⟩) m' (m' + 2)), Det (.pointer (some ⟨g7, 3, none⟩)), Det (.slice A' m' c'), Det (.bool true), Det (.bool false), Det (.bool false), Det (.bool false), Det (.pointer (some ⟨gt, 0, none⟩)), Det (.slice none 0 0), Det (.int .i64 0), Det (.bool false), Det (.bool false), Det (.bool false), Det (.bool false), Det (.pointer (some ⟨gt, 0, none⟩)), Det (.slice none 0 0), Det (.int .i64 0), Det (.bool false), Det (.bool false), Det (.bool false), Det (.bool false), Det (.bool false), Det undef, Det undef, Det undef, Det undef, Det undef, Det undef, Det undef, Det (.bool false), Det (.bool false), Det (.bool false), Det (.pointer (some ⟨gt, 1, none⟩)), Det (.bool out.drew), Det (.bool out.drew), Det (.bool false), Det (.bool false), Det (.bool false), Det (.pointer (some ⟨gt, 2, none⟩)), Det (.bool out.taken), Det (.bool out.taken), Det (.bool false), Det (.bool false)]
          [[], [(0, some 93)], [], [(2, some 95)], [(1, some 94), (3, some 96)], [(4, some 97)], [(5, some 98)], [(6, some 99)], [(6, some 99)], [(8, some 101), (6, some 99)], [(9, some 102), (6, some 99)], [(10, some 103), (6, some 99)], [(7, some 100), (11, some 104), (6, some 99)], [(6, some 99), (12, some 105)], [(13, some 106)], [(14, some 107)], [(15, some 108), (14, some 107)], [(16, some 109), (14, some 107)], [(17, some 110), (14, some 107)], [(14, some 107), (18, some 111)], [(19, some 112)], [(20, some 113)], [(21, some 114), (20, some 113)], [(22, some 115)], [(23, some 116), (22, some 115)], [(24, some 117), (22, some 115)], [(25, some 118), (22, some 115)], [(22, some 115)], [(26, some 119), (27, some 120), (22, some 115)], [(28, some 121), (22, some 115)], [(22, some 115), (29, some 122), (20, some 113)], [(20, some 113), (30, some 123)], [(31, some 124)], [(32, some 125)], [(33, some 126), (32, some 125)], [(32, some 125)], [(34, some 127), (35, some 128), (32, some 125)], [(32, some 125), (36, some 129)], [(37, some 130)], [(38, some 131)], [(39, some 132), (38, some 131)], [(38, some 131)], [(40, some 133), (41, some 134), (38, some 131)], [(38, some 131), (42, some 135)]]
          [[], [0], [], [2], [0, 1, 2, 3], [0, 1, 2, 3, 4], [0, 1, 2, 3, 4, 5], [0, 1, 2, 3, 4, 5, 6], [0, 1, 2, 3, 4, 5, 6], [0, 1, 2, 3, 4, 5, 6, 8], [0, 1, 2, 3, 4, 5, 6, 8, 9], [0, 1, 2, 3, 4, 5, 6, 8, 9, 10], [0, 1, 2, 3, 4, 5, 6, 7, 8, 9, 10, 11], [0, 1, 2, 3, 4, 5, 6, 7, 8, 9, 10, 11, 12], [0, 1, 2, 3, 4, 5, 6, 7, 8, 9, 10, 11, 12, 13], [0, 1, 2, 3, 4, 5, 6, 7, 8, 9, 10, 11, 12, 13, 14], [0, 1, 2, 3, 4, 5, 6, 7, 8, 9, 10, 11, 12, 13, 14, 15], [0, 1, 2, 3, 4, 5, 6, 7, 8, 9, 10, 11, 12, 13, 14, 15, 16], [0, 1, 2, 3, 4, 5, 6, 7, 8, 9, 10, 11, 12, 13, 14, 15, 16, 17], [0, 1, 2, 3, 4, 5, 6, 7, 8, 9, 10, 11, 12, 13, 14, 15, 16, 17, 18], [0, 1, 2, 3, 4, 5, 6, 7, 8, 9, 10, 11, 12, 13, 14, 15, 16, 17, 18, 19], [0, 1, 2, 3, 4, 5, 6, 7, 8, 9, 10, 11, 12, 13, 14, 15, 16, 17, 18, 19, 20], [0, 1, 2, 3, 4, 5, 6, 7, 8, 9, 10, 11, 12, 13, 14, 15, 16, 17, 18, 19, 20, 21], [0, 1, 2, 3, 4, 5, 6, 7, 8, 9, 10, 11, 12, 13, 14, 15, 16, 17, 18, 19, 20, 21, 22], [0, 1, 2, 3, 4, 5, 6, 7, 8, 9, 10, 11, 12, 13, 14, 15, 16, 17, 18, 19, 20, 21, 22, 23], [0, 1, 2, 3, 4, 5, 6, 7, 8, 9, 10, 11, 12, 13, 14, 15, 16, 17, 18, 19, 20, 21, 22, 23, 24], [0, 1, 2, 3, 4, 5, 6, 7, 8, 9, 10, 11, 12, 13, 14, 15, 16, 17, 18, 19, 20, 21, 22, 23, 24, 25], [0, 1, 2, 3, 4, 5, 6, 7, 8, 9, 10, 11, 12, 13, 14, 15, 16, 17, 18, 19, 20, 21, 22], [0, 1, 2, 3, 4, 5, 6, 7, 8, 9, 10, 11, 12, 13, 14, 15, 16, 17, 18, 19, 20, 21, 22, 23, 24, 25, 26, 27], [0, 1, 2, 3, 4, 5, 6, 7, 8, 9, 10, 11, 12, 13, 14, 15, 16, 17, 18, 19, 20, 21, 22, 23, 24, 25, 26, 27, 28], [0, 1, 2, 3, 4, 5, 6, 7, 8, 9, 10, 11, 12, 13, 14, 15, 16, 17, 18, 19, 20, 21, 22, 23, 24, 25, 26, 27, 28, 29], [0, 1, 2, 3, 4, 5, 6, 7, 8, 9, 10, 11, 12, 13, 14, 15, 16, 17, 18, 19, 20, 21, 22, 23, 24, 25, 26, 27, 28, 29, 30], [0, 1, 2, 3, 4, 5, 6, 7, 8, 9, 10, 11, 12, 13, 14, 15, 16, 17, 18, 19, 20, 21, 22, 23, 24, 25, 26, 27, 28, 29, 30, 31], [0, 1, 2, 3, 4, 5, 6, 7, 8, 9, 10, 11, 12, 13, 14, 15, 16, 17, 18, 19, 20, 21, 22, 23, 24, 25, 26, 27, 28, 29, 30, 31, 32], [0, 1, 2, 3, 4, 5, 6, 7, 8, 9, 10, 11, 12, 13, 14, 15, 16, 17, 18, 19, 20, 21, 22, 23, 24, 25, 26, 27, 28, 29, 30, 31, 32, 33], [0, 1, 2, 3, 4, 5, 6, 7, 8, 9, 10, 11, 12, 13, 14, 15, 16, 17, 18, 19, 20, 21, 22, 23, 24, 25, 26, 27, 28, 29, 30, 31, 32], [0, 1, 2, 3, 4, 5, 6, 7, 8, 9, 10, 11, 12, 13, 14, 15, 16, 17, 18, 19, 20, 21, 22, 23, 24, 25, 26, 27, 28, 29, 30, 31, 32, 33, 34, 35], [0, 1, 2, 3, 4, 5, 6, 7, 8, 9, 10, 11, 12, 13, 14, 15, 16, 17, 18, 19, 20, 21, 22, 23, 24, 25, 26, 27, 28, 29, 30, 31, 32, 33, 34, 35, 36], [0, 1, 2, 3, 4, 5, 6, 7, 8, 9, 10, 11, 12, 13, 14, 15, 16, 17, 18, 19, 20, 21, 22, 23, 24, 25, 26, 27, 28, 29, 30, 31, 32, 33, 34, 35, 36, 37], [0, 1, 2, 3, 4, 5, 6, 7, 8, 9, 10, 11, 12, 13, 14, 15, 16, 17, 18, 19, 20, 21, 22, 23, 24, 25, 26, 27, 28, 29, 30, 31, 32, 33, 34, 35, 36, 37, 38], [0, 1, 2, 3, 4, 5, 6, 7, 8, 9, 10, 11, 12, 13, 14, 15, 16, 17, 18, 19, 20, 21, 22, 23, 24, 25, 26, 27, 28, 29, 30, 31, 32, 33, 34, 35, 36, 37, 38, 39], [0, 1, 2, 3, 4, 5, 6, 7, 8, 9, 10, 11, 12, 13, 14, 15, 16, 17, 18, 19, 20, 21, 22, 23, 24, 25, 26, 27, 28, 29, 30, 31, 32, 33, 34, 35, 36, 37, 38], [0, 1, 2, 3, 4, 5, 6, 7, 8, 9, 10, 11, 12, 13, 14, 15, 16, 17, 18, 19, 20, 21, 22, 23, 24, 25, 26, 27, 28, 29, 30, 31, 32, 33, 34, 35, 36, 37, 38, 39, 40, 41], [0, 1, 2, 3, 4, 5, 6, 7, 8, 9, 10, 11, 12, 13, 14, 15, 16, 17, 18, 19, 20, 21, 22, 23, 24, 25, 26, 27, 28, 29, 30, 31, 32, 33, 34, 35, 36, 37, 38, 39, 40, 41, 42]]
          [(0, some 93), (1, some 94), (2, some 95), (3, some 96), (4, some 97), (5, some 98), (6, some 99), (7, some 100), (8, some 101), (9, some 102), (10, some 103), (11, some 104), (12, some 105), (13, some 106), (14, some 107), (15, some 108), (16, some 109), (17, some 110), (18, some 111), (19, some 112), (20, some 113), (21, some 114), (22, some 115), (23, some 116), (24, some 117), (25, some 118), (26, some 119), (27, some 120), (28, some 121), (29, some 122), (30, some 123), (31, some 124), (32, some 125), (33, some 126), (34, some 127), (35, some 128), (36, some 129), (37, some 130), (38, some 131), (39, some 132), (40, some 133), (41, some 134), (42, some 135), (43, some 136)] (by kernel_rfl) (by kernel_rfl) (fun W W' h1 h2 => h1.trans (h2.mono h1.size)) ((Below.refl _ _).drew) ?_ ?_ ?_
        · exact (AllMono.cons Det.later (AllMono.cons Det.later (AllMono.cons Det.later (AllMono.cons Det.later (AllMono.cons Det.later (AllMono.cons Det.later (AllMono.cons Det.later (AllMono.cons Det.later (AllMono.cons Det.later (AllMono.cons Det.later (AllMono.cons Det.later (AllMono.cons Det.later (AllMono.cons Det.later (AllMono.cons Det.later (AllMono.cons Det.later (AllMono.cons Det.later (AllMono.cons Det.later (AllMono.cons Det.later (AllMono.cons Det.later (AllMono.cons Det.later (AllMono.cons Det.later (AllMono.cons Det.later (AllMono.cons Det.later (AllMono.cons Det.later (AllMono.cons Det.later (AllMono.cons Det.later (AllMono.cons Det.later (AllMono.cons Det.later (AllMono.cons Det.later (AllMono.cons Det.later (AllMono.cons Det.later (AllMono.cons Det.later (AllMono.cons Det.later (AllMono.cons Det.later (AllMono.cons Det.later (AllMono.cons Det.later (AllMono.cons Det.later (AllMono.cons Det.later (AllMono.cons Det.later (AllMono.cons Det.later (AllMono.cons Det.later (AllMono.cons Det.later (AllMono.cons Det.later (AllMono.cons Det.later AllMono.nil))))))))))))))))))))))))))))))))))))))))))))
        · refine AllOb.cons ?_ (AllOb.cons ?_ (AllOb.cons ?_ (AllOb.cons ?_ (AllOb.cons ?_ (AllOb.cons ?_ (AllOb.cons ?_ (AllOb.cons ?_ (AllOb.cons ?_ (AllOb.cons ?_ (AllOb.cons ?_ (AllOb.cons ?_ (AllOb.cons ?_ (AllOb.cons ?_ (AllOb.cons ?_ (AllOb.cons ?_ (AllOb.cons ?_ (AllOb.cons ?_ (AllOb.cons ?_ (AllOb.cons ?_ (AllOb.cons ?_ (AllOb.cons ?_ (AllOb.cons ?_ (AllOb.cons ?_ (AllOb.cons ?_ (AllOb.cons ?_ (AllOb.cons ?_ (AllOb.cons ?_ (AllOb.cons ?_ (AllOb.cons ?_ (AllOb.cons ?_ (AllOb.cons ?_ (AllOb.cons ?_ (AllOb.cons ?_ (AllOb.cons ?_ (AllOb.cons ?_ (AllOb.cons ?_ (AllOb.cons ?_ (AllOb.cons ?_ (AllOb.cons ?_ (AllOb.cons ?_ (AllOb.cons ?_ (AllOb.cons ?_ (AllOb.cons ?_ (AllOb.nil))))))))))))))))))))))))))))))))))))))))))))
          · intro uF W hC' hU aF hF
            have hC : Below u14.heap.size u14 W := hC'
            clear hC'
            simp only [puts] at hF
            subst hF
            go_wp2_with (fail)
            exact ⟨rfl, rfl, (Below.refl _ _), rfl⟩
          · intro uF W hC' hU aF hF
            have hC : Below u14.heap.size u14 W := hC'
            clear hC'
            have h93 : (Det (.pointer (some ⟨ga, 3, none⟩))) (uF 0) W := hU.1
            clear hU
            simp only [puts, Act.put, List.setIfInBounds_toArray, List.set_cons_zero, List.set_cons_succ] at hF
            generalize uF 0 = x93 at h93 hF
            obtain rfl : x93 = (.pointer (some ⟨ga, 3, none⟩)) := h93
            subst hF
            have d1 : W.cell? ⟨ga, 3, none⟩ = some (.slice (some ⟨gk, 0, none⟩) m' (m' + 2)) := by rw [(BAD.out.below hC BAD.out.lt).cell]; rfl
            go_wp2_with (fail)
            exact ⟨rfl, rfl, (Below.refl _ _), rfl⟩
          · intro uF W hC' hU aF hF
            have hC : Below u14.heap.size u14 W := hC'
            clear hC'
            simp only [puts] at hF
            subst hF
            go_wp2_with (fail)
            exact ⟨rfl, rfl, (Below.refl _ _), rfl⟩
          · intro uF W hC' hU aF hF
            have hC : Below u14.heap.size u14 W := hC'
            clear hC'
            have h95 : (Det (.pointer (some ⟨g7, 3, none⟩))) (uF 2) W := hU.1
            clear hU
            simp only [puts, Act.put, List.setIfInBounds_toArray, List.set_cons_zero, List.set_cons_succ] at hF
            generalize uF 2 = x95 at h95 hF
            obtain rfl : x95 = (.pointer (some ⟨g7, 3, none⟩)) := h95
            subst hF
            have d1 : W.cell? ⟨g7, 3, none⟩ = some (.slice A' m' c') := by rw [(B7D.out.below hC B7D.out.lt).cell]; rfl
            go_wp2_with (fail)
            exact ⟨rfl, rfl, (Below.refl _ _), rfl⟩
          · intro uF W hC' hU aF hF
            have hC : Below u14.heap.size u14 W := hC'
            clear hC'
            have h94 : (Det (.slice (some ⟨gk, 0, none⟩) m' (m' + 2))) (uF 1) W := hU.1
            have h96 : (Det (.slice A' m' c')) (uF 3) W := hU.2.1
            clear hU
            simp only [puts, Act.put, List.setIfInBounds_toArray, List.set_cons_zero, List.set_cons_succ] at hF
            generalize uF 1 = x94 at h94 hF
            generalize uF 3 = x96 at h96 hF
            obtain rfl : x94 = (.slice (some ⟨gk, 0, none⟩) m' (m' + 2)) := h94
            obtain rfl : x96 = (.slice A' m' c') := h96
            subst hF
            go_wp2_with ((go_at_call 24; refine (kept_c ((OwB.below HKD.out hC).sl) (HDFD.out.below hC) (by omega)).mono ?_; rintro e W1 ⟨rfl, rfl⟩))
            exact ⟨rfl, rfl, (Below.refl _ _), rfl⟩
          · intro uF W hC' hU aF hF
            have hC : Below u14.heap.size u14 W := hC'
            clear hC'
            have h97 : (Det (.bool true)) (uF 4) W := hU.1
            clear hU
            simp only [puts, Act.put, List.setIfInBounds_toArray, List.set_cons_zero, List.set_cons_succ] at hF
            generalize uF 4 = x97 at h97 hF
            obtain rfl : x97 = (.bool true) := h97
            subst hF
            go_wp2_with (fail)
            exact ⟨rfl, rfl, (Below.refl _ _), rfl⟩
          · intro uF W hC' hU aF hF
            have hC : Below u14.heap.size u14 W := hC'
            clear hC'
            have h98 : (Det (.bool false)) (uF 5) W := hU.1
            clear hU
            simp only [puts, Act.put, List.setIfInBounds_toArray, List.set_cons_zero, List.set_cons_succ] at hF
            generalize uF 5 = x98 at h98 hF
            obtain rfl : x98 = (.bool false) := h98
            subst hF
            go_wp2_with (fail)
            exact ⟨rfl, rfl, (Below.refl _ _), rfl⟩
          · intro uF W hC' hU aF hF
            have hC : Below u14.heap.size u14 W := hC'
            clear hC'
            have h99 : (Det (.bool false)) (uF 6) W := hU.1
            clear hU
            simp only [puts, Act.put, List.setIfInBounds_toArray, List.set_cons_zero, List.set_cons_succ] at hF
            generalize uF 6 = x99 at h99 hF
            obtain rfl : x99 = (.bool false) := h99
            subst hF
            go_wp2_with (fail)
            exact ⟨rfl, rfl, (Below.refl _ _), rfl⟩
          · intro uF W hC' hU aF hF
            have hC : Below u14.heap.size u14 W := hC'
            clear hC'
            have h99 : (Det (.bool false)) (uF 6) W := hU.1
            clear hU
            simp only [puts, Act.put, List.setIfInBounds_toArray, List.set_cons_zero, List.set_cons_succ] at hF
            generalize uF 6 = x99 at h99 hF
            obtain rfl : x99 = (.bool false) := h99
            subst hF
            go_wp2_with (fail)
            exact ⟨rfl, rfl, (Below.refl _ _), rfl⟩
          · intro uF W hC' hU aF hF
            have hC : Below u14.heap.size u14 W := hC'
            clear hC'
            have h101 : (Det (.pointer (some ⟨gt, 0, none⟩))) (uF 8) W := hU.1
            have h99 : (Det (.bool false)) (uF 6) W := hU.2.1
            clear hU
            simp only [puts, Act.put, List.setIfInBounds_toArray, List.set_cons_zero, List.set_cons_succ] at hF
            generalize uF 8 = x101 at h101 hF
            generalize uF 6 = x99 at h99 hF
            obtain rfl : x101 = (.pointer (some ⟨gt, 0, none⟩)) := h101
            obtain rfl : x99 = (.bool false) := h99
            subst hF
            have d1 : W.cell? ⟨gt, 0, none⟩ = some (.slice none 0 0) := by rw [(BTD.out.below hC BTD.out.lt).cell]; rfl
            go_wp2_with (fail)
            exact ⟨rfl, rfl, (Below.refl _ _), rfl⟩
          · intro uF W hC' hU aF hF
            have hC : Below u14.heap.size u14 W := hC'
            clear hC'
            have h102 : (Det (.slice none 0 0)) (uF 9) W := hU.1
            have h99 : (Det (.bool false)) (uF 6) W := hU.2.1
            clear hU
            simp only [puts, Act.put, List.setIfInBounds_toArray, List.set_cons_zero, List.set_cons_succ] at hF
            generalize uF 9 = x102 at h102 hF
            generalize uF 6 = x99 at h99 hF
            obtain rfl : x102 = (.slice none 0 0) := h102
            obtain rfl : x99 = (.bool false) := h99
            subst hF
            go_wp2_with (fail)
            exact ⟨rfl, rfl, (Below.refl _ _), rfl⟩
          · intro uF W hC' hU aF hF
            have hC : Below u14.heap.size u14 W := hC'
            clear hC'
            have h103 : (Det (.int .i64 0)) (uF 10) W := hU.1
            have h99 : (Det (.bool false)) (uF 6) W := hU.2.1
            clear hU
            simp only [puts, Act.put, List.setIfInBounds_toArray, List.set_cons_zero, List.set_cons_succ] at hF
            generalize uF 10 = x103 at h103 hF
            generalize uF 6 = x99 at h99 hF
            obtain rfl : x103 = (.int .i64 0) := h103
            obtain rfl : x99 = (.bool false) := h99
            subst hF
            go_wp2_with (fail)
            exact ⟨rfl, rfl, (Below.refl _ _), rfl⟩
          · intro uF W hC' hU aF hF
            have hC : Below u14.heap.size u14 W := hC'
            clear hC'
            have h100 : (Det (.bool false)) (uF 7) W := hU.1
            have h104 : (Det (.bool false)) (uF 11) W := hU.2.1
            have h99 : (Det (.bool false)) (uF 6) W := hU.2.2.1
            clear hU
            simp only [puts, Act.put, List.setIfInBounds_toArray, List.set_cons_zero, List.set_cons_succ] at hF
            generalize uF 7 = x100 at h100 hF
            generalize uF 11 = x104 at h104 hF
            generalize uF 6 = x99 at h99 hF
            obtain rfl : x100 = (.bool false) := h100
            obtain rfl : x104 = (.bool false) := h104
            obtain rfl : x99 = (.bool false) := h99
            subst hF
            go_wp2_with (fail)
            exact ⟨rfl, rfl, (Below.refl _ _), rfl⟩
          · intro uF W hC' hU aF hF
            have hC : Below u14.heap.size u14 W := hC'
            clear hC'
            have h99 : (Det (.bool false)) (uF 6) W := hU.1
            have h105 : (Det (.bool false)) (uF 12) W := hU.2.1
            clear hU
            simp only [puts, Act.put, List.setIfInBounds_toArray, List.set_cons_zero, List.set_cons_succ] at hF
            generalize uF 6 = x99 at h99 hF
            generalize uF 12 = x105 at h105 hF
            obtain rfl : x99 = (.bool false) := h99
            obtain rfl : x105 = (.bool false) := h105
            subst hF
            go_wp2_with (fail)
            exact ⟨rfl, rfl, (Below.refl _ _), rfl⟩
          · intro uF W hC' hU aF hF
            have hC : Below u14.heap.size u14 W := hC'
            clear hC'
            have h106 : (Det (.bool false)) (uF 13) W := hU.1
            clear hU
            simp only [puts, Act.put, List.setIfInBounds_toArray, List.set_cons_zero, List.set_cons_succ] at hF
            generalize uF 13 = x106 at h106 hF
            obtain rfl : x106 = (.bool false) := h106
            subst hF
            go_wp2_with (fail)
            exact ⟨rfl, rfl, (Below.refl _ _), rfl⟩
          · intro uF W hC' hU aF hF
            have hC : Below u14.heap.size u14 W := hC'
            clear hC'
            have h107 : (Det (.bool false)) (uF 14) W := hU.1
            clear hU
            simp only [puts, Act.put, List.setIfInBounds_toArray, List.set_cons_zero, List.set_cons_succ] at hF
            generalize uF 14 = x107 at h107 hF
            obtain rfl : x107 = (.bool false) := h107
            subst hF
            go_wp2_with (fail)
            exact ⟨rfl, rfl, (Below.refl _ _), rfl⟩
          · intro uF W hC' hU aF hF
            have hC : Below u14.heap.size u14 W := hC'
            clear hC'
            have h108 : (Det (.pointer (some ⟨gt, 0, none⟩))) (uF 15) W := hU.1
            have h107 : (Det (.bool false)) (uF 14) W := hU.2.1
            clear hU
            simp only [puts, Act.put, List.setIfInBounds_toArray, List.set_cons_zero, List.set_cons_succ] at hF
            generalize uF 15 = x108 at h108 hF
            generalize uF 14 = x107 at h107 hF
            obtain rfl : x108 = (.pointer (some ⟨gt, 0, none⟩)) := h108
            obtain rfl : x107 = (.bool false) := h107
            subst hF
            have d1 : W.cell? ⟨gt, 0, none⟩ = some (.slice none 0 0) := by rw [(BTD.out.below hC BTD.out.lt).cell]; rfl
            go_wp2_with (fail)
            exact ⟨rfl, rfl, (Below.refl _ _), rfl⟩
          · intro uF W hC' hU aF hF
            have hC : Below u14.heap.size u14 W := hC'
            clear hC'
            have h109 : (Det (.slice none 0 0)) (uF 16) W := hU.1
            have h107 : (Det (.bool false)) (uF 14) W := hU.2.1
            clear hU
            simp only [puts, Act.put, List.setIfInBounds_toArray, List.set_cons_zero, List.set_cons_succ] at hF
            generalize uF 16 = x109 at h109 hF
            generalize uF 14 = x107 at h107 hF
            obtain rfl : x109 = (.slice none 0 0) := h109
            obtain rfl : x107 = (.bool false) := h107
            subst hF
            go_wp2_with (fail)
            exact ⟨rfl, rfl, (Below.refl _ _), rfl⟩
          · intro uF W hC' hU aF hF
            have hC : Below u14.heap.size u14 W := hC'
            clear hC'
            have h110 : (Det (.int .i64 0)) (uF 17) W := hU.1
            have h107 : (Det (.bool false)) (uF 14) W := hU.2.1
            clear hU
            simp only [puts, Act.put, List.setIfInBounds_toArray, List.set_cons_zero, List.set_cons_succ] at hF
            generalize uF 17 = x110 at h110 hF
            generalize uF 14 = x107 at h107 hF
            obtain rfl : x110 = (.int .i64 0) := h110
            obtain rfl : x107 = (.bool false) := h107
            subst hF
            go_wp2_with (fail)
            exact ⟨rfl, rfl, (Below.refl _ _), rfl⟩
          · intro uF W hC' hU aF hF
            have hC : Below u14.heap.size u14 W := hC'
            clear hC'
            have h107 : (Det (.bool false)) (uF 14) W := hU.1
            have h111 : (Det (.bool false)) (uF 18) W := hU.2.1
            clear hU
            simp only [puts, Act.put, List.setIfInBounds_toArray, List.set_cons_zero, List.set_cons_succ] at hF
            generalize uF 14 = x107 at h107 hF
            generalize uF 18 = x111 at h111 hF
            obtain rfl : x107 = (.bool false) := h107
            obtain rfl : x111 = (.bool false) := h111
            subst hF
            go_wp2_with (fail)
            exact ⟨rfl, rfl, (Below.refl _ _), rfl⟩
          · intro uF W hC' hU aF hF
            have hC : Below u14.heap.size u14 W := hC'
            clear hC'
            have h112 : (Det (.bool false)) (uF 19) W := hU.1
            clear hU
            simp only [puts, Act.put, List.setIfInBounds_toArray, List.set_cons_zero, List.set_cons_succ] at hF
            generalize uF 19 = x112 at h112 hF
            obtain rfl : x112 = (.bool false) := h112
            subst hF
            go_wp2_with (fail)
            exact ⟨rfl, rfl, (Below.refl _ _), rfl⟩
          · intro uF W hC' hU aF hF
            have hC : Below u14.heap.size u14 W := hC'
            clear hC'
            have h113 : (Det (.bool false)) (uF 20) W := hU.1
            clear hU
            simp only [puts, Act.put, List.setIfInBounds_toArray, List.set_cons_zero, List.set_cons_succ] at hF
            generalize uF 20 = x113 at h113 hF
            obtain rfl : x113 = (.bool false) := h113
            subst hF
            go_wp2_with (fail)
            exact ⟨rfl, rfl, (Below.refl _ _), rfl⟩
          · intro uF W hC' hU aF hF
            have hC : Below u14.heap.size u14 W := hC'
            clear hC'
            have h114 : (Det (.bool false)) (uF 21) W := hU.1
            have h113 : (Det (.bool false)) (uF 20) W := hU.2.1
            clear hU
            simp only [puts, Act.put, List.setIfInBounds_toArray, List.set_cons_zero, List.set_cons_succ] at hF
            generalize uF 21 = x114 at h114 hF
            generalize uF 20 = x113 at h113 hF
            obtain rfl : x114 = (.bool false) := h114
            obtain rfl : x113 = (.bool false) := h113
            subst hF
            go_wp2_with (fail)
            exact ⟨rfl, rfl, (Below.refl _ _), rfl⟩
          · intro uF W hC' hU aF hF
            have hC : Below u14.heap.size u14 W := hC'
            clear hC'
            have h115 : (Det (.bool false)) (uF 22) W := hU.1
            clear hU
            simp only [puts, Act.put, List.setIfInBounds_toArray, List.set_cons_zero, List.set_cons_succ] at hF
            generalize uF 22 = x115 at h115 hF
            obtain rfl : x115 = (.bool false) := h115
            subst hF
            go_wp2_with (fail)
            exact ⟨rfl, rfl, (Below.refl _ _), rfl⟩
          · intro uF W hC' hU aF hF
            have hC : Below u14.heap.size u14 W := hC'
            clear hC'
            have h116 : (Det undef) (uF 23) W := hU.1
            have h115 : (Det (.bool false)) (uF 22) W := hU.2.1
            clear hU
            simp only [puts, Act.put, List.setIfInBounds_toArray, List.set_cons_zero, List.set_cons_succ] at hF
            generalize uF 23 = x116 at h116 hF
            generalize uF 22 = x115 at h115 hF
            obtain rfl : x116 = undef := h116
            obtain rfl : x115 = (.bool false) := h115
            subst hF
            go_wp2_with (fail)
            exact ⟨rfl, rfl, (Below.refl _ _), rfl⟩
          · intro uF W hC' hU aF hF
            have hC : Below u14.heap.size u14 W := hC'
            clear hC'
            have h117 : (Det undef) (uF 24) W := hU.1
            have h115 : (Det (.bool false)) (uF 22) W := hU.2.1
            clear hU
            simp only [puts, Act.put, List.setIfInBounds_toArray, List.set_cons_zero, List.set_cons_succ] at hF
            generalize uF 24 = x117 at h117 hF
            generalize uF 22 = x115 at h115 hF
            obtain rfl : x117 = undef := h117
            obtain rfl : x115 = (.bool false) := h115
            subst hF
            go_wp2_with (fail)
            exact ⟨rfl, rfl, (Below.refl _ _), rfl⟩
          · intro uF W hC' hU aF hF
            have hC : Below u14.heap.size u14 W := hC'
            clear hC'
            have h118 : (Det undef) (uF 25) W := hU.1
            have h115 : (Det (.bool false)) (uF 22) W := hU.2.1
            clear hU
            simp only [puts, Act.put, List.setIfInBounds_toArray, List.set_cons_zero, List.set_cons_succ] at hF
            generalize uF 25 = x118 at h118 hF
            generalize uF 22 = x115 at h115 hF
            obtain rfl : x118 = undef := h118
            obtain rfl : x115 = (.bool false) := h115
            subst hF
            go_wp2_with (fail)
            exact ⟨rfl, rfl, (Below.refl _ _), rfl⟩
          · intro uF W hC' hU aF hF
            have hC : Below u14.heap.size u14 W := hC'
            clear hC'
            have h115 : (Det (.bool false)) (uF 22) W := hU.1
            clear hU
            simp only [puts, Act.put, List.setIfInBounds_toArray, List.set_cons_zero, List.set_cons_succ] at hF
            generalize uF 22 = x115 at h115 hF
            obtain rfl : x115 = (.bool false) := h115
            subst hF
            go_wp2_with (fail)
            exact ⟨rfl, rfl, (Below.refl _ _), rfl⟩
          · intro uF W hC' hU aF hF
            have hC : Below u14.heap.size u14 W := hC'
            clear hC'
            have h119 : (Det undef) (uF 26) W := hU.1
            have h120 : (Det undef) (uF 27) W := hU.2.1
            have h115 : (Det (.bool false)) (uF 22) W := hU.2.2.1
            clear hU
            simp only [puts, Act.put, List.setIfInBounds_toArray, List.set_cons_zero, List.set_cons_succ] at hF
            generalize uF 26 = x119 at h119 hF
            generalize uF 27 = x120 at h120 hF
            generalize uF 22 = x115 at h115 hF
            obtain rfl : x119 = undef := h119
            obtain rfl : x120 = undef := h120
            obtain rfl : x115 = (.bool false) := h115
            subst hF
            go_wp2_with (fail)
            exact ⟨rfl, rfl, (Below.refl _ _), rfl⟩
          · intro uF W hC' hU aF hF
            have hC : Below u14.heap.size u14 W := hC'
            clear hC'
            have h121 : (Det undef) (uF 28) W := hU.1
            have h115 : (Det (.bool false)) (uF 22) W := hU.2.1
            clear hU
            simp only [puts, Act.put, List.setIfInBounds_toArray, List.set_cons_zero, List.set_cons_succ] at hF
            generalize uF 28 = x121 at h121 hF
            generalize uF 22 = x115 at h115 hF
            obtain rfl : x121 = undef := h121
            obtain rfl : x115 = (.bool false) := h115
            subst hF
            go_wp2_with (fail)
            exact ⟨rfl, rfl, (Below.refl _ _), rfl⟩
          · intro uF W hC' hU aF hF
            have hC : Below u14.heap.size u14 W := hC'
            clear hC'
            have h115 : (Det (.bool false)) (uF 22) W := hU.1
            have h122 : (Det undef) (uF 29) W := hU.2.1
            have h113 : (Det (.bool false)) (uF 20) W := hU.2.2.1
            clear hU
            simp only [puts, Act.put, List.setIfInBounds_toArray, List.set_cons_zero, List.set_cons_succ] at hF
            generalize uF 22 = x115 at h115 hF
            generalize uF 29 = x122 at h122 hF
            generalize uF 20 = x113 at h113 hF
            obtain rfl : x115 = (.bool false) := h115
            obtain rfl : x122 = undef := h122
            obtain rfl : x113 = (.bool false) := h113
            subst hF
            go_wp2_with (fail)
            exact ⟨rfl, rfl, (Below.refl _ _), rfl⟩
          · intro uF W hC' hU aF hF
            have hC : Below u14.heap.size u14 W := hC'
            clear hC'
            have h113 : (Det (.bool false)) (uF 20) W := hU.1
            have h123 : (Det (.bool false)) (uF 30) W := hU.2.1
            clear hU
            simp only [puts, Act.put, List.setIfInBounds_toArray, List.set_cons_zero, List.set_cons_succ] at hF
            generalize uF 20 = x113 at h113 hF
            generalize uF 30 = x123 at h123 hF
            obtain rfl : x113 = (.bool false) := h113
            obtain rfl : x123 = (.bool false) := h123
            subst hF
            go_wp2_with (fail)
            exact ⟨rfl, rfl, (Below.refl _ _), rfl⟩
          · intro uF W hC' hU aF hF
            have hC : Below u14.heap.size u14 W := hC'
            clear hC'
            have h124 : (Det (.bool false)) (uF 31) W := hU.1
            clear hU
            simp only [puts, Act.put, List.setIfInBounds_toArray, List.set_cons_zero, List.set_cons_succ] at hF
            generalize uF 31 = x124 at h124 hF
            obtain rfl : x124 = (.bool false) := h124
            subst hF
            go_wp2_with (fail)
            exact ⟨rfl, rfl, (Below.refl _ _), rfl⟩
          · intro uF W hC' hU aF hF
            have hC : Below u14.heap.size u14 W := hC'
            clear hC'
            have h125 : (Det (.bool false)) (uF 32) W := hU.1
            clear hU
            simp only [puts, Act.put, List.setIfInBounds_toArray, List.set_cons_zero, List.set_cons_succ] at hF
            generalize uF 32 = x125 at h125 hF
            obtain rfl : x125 = (.bool false) := h125
            subst hF
            go_wp2_with (fail)
            exact ⟨rfl, rfl, (Below.refl _ _), rfl⟩
          · intro uF W hC' hU aF hF
            have hC : Below u14.heap.size u14 W := hC'
            clear hC'
            have h126 : (Det (.pointer (some ⟨gt, 1, none⟩))) (uF 33) W := hU.1
            have h125 : (Det (.bool false)) (uF 32) W := hU.2.1
            clear hU
            simp only [puts, Act.put, List.setIfInBounds_toArray, List.set_cons_zero, List.set_cons_succ] at hF
            generalize uF 33 = x126 at h126 hF
            generalize uF 32 = x125 at h125 hF
            obtain rfl : x126 = (.pointer (some ⟨gt, 1, none⟩)) := h126
            obtain rfl : x125 = (.bool false) := h125
            subst hF
            have d1 : W.cell? ⟨gt, 1, none⟩ = some (.bool out.drew) := by rw [(BTD.out.below hC BTD.out.lt).cell]; rfl
            go_wp2_with (fail)
            exact ⟨rfl, rfl, (Below.refl _ _), rfl⟩
          · intro uF W hC' hU aF hF
            have hC : Below u14.heap.size u14 W := hC'
            clear hC'
            have h125 : (Det (.bool false)) (uF 32) W := hU.1
            clear hU
            simp only [puts, Act.put, List.setIfInBounds_toArray, List.set_cons_zero, List.set_cons_succ] at hF
            generalize uF 32 = x125 at h125 hF
            obtain rfl : x125 = (.bool false) := h125
            subst hF
            go_wp2_with (fail)
            exact ⟨rfl, rfl, (Below.refl _ _), rfl⟩
          · intro uF W hC' hU aF hF
            have hC : Below u14.heap.size u14 W := hC'
            clear hC'
            have h127 : (Det (.bool out.drew)) (uF 34) W := hU.1
            have h128 : (Det (.bool out.drew)) (uF 35) W := hU.2.1
            have h125 : (Det (.bool false)) (uF 32) W := hU.2.2.1
            clear hU
            simp only [puts, Act.put, List.setIfInBounds_toArray, List.set_cons_zero, List.set_cons_succ] at hF
            generalize uF 34 = x127 at h127 hF
            generalize uF 35 = x128 at h128 hF
            generalize uF 32 = x125 at h125 hF
            obtain rfl : x127 = (.bool out.drew) := h127
            obtain rfl : x128 = (.bool out.drew) := h128
            obtain rfl : x125 = (.bool false) := h125
            subst hF
            go_wp2_with (fail)
            exact ⟨rfl, rfl, (Below.refl _ _), rfl⟩
          · intro uF W hC' hU aF hF
            have hC : Below u14.heap.size u14 W := hC'
            clear hC'
            have h125 : (Det (.bool false)) (uF 32) W := hU.1
            have h129 : (Det (.bool false)) (uF 36) W := hU.2.1
            clear hU
            simp only [puts, Act.put, List.setIfInBounds_toArray, List.set_cons_zero, List.set_cons_succ] at hF
            generalize uF 32 = x125 at h125 hF
            generalize uF 36 = x129 at h129 hF
            obtain rfl : x125 = (.bool false) := h125
            obtain rfl : x129 = (.bool false) := h129
            subst hF
            go_wp2_with (fail)
            exact ⟨rfl, rfl, (Below.refl _ _), rfl⟩
          · intro uF W hC' hU aF hF
            have hC : Below u14.heap.size u14 W := hC'
            clear hC'
            have h130 : (Det (.bool false)) (uF 37) W := hU.1
            clear hU
            simp only [puts, Act.put, List.setIfInBounds_toArray, List.set_cons_zero, List.set_cons_succ] at hF
            generalize uF 37 = x130 at h130 hF
            obtain rfl : x130 = (.bool false) := h130
            subst hF
            go_wp2_with (fail)
            exact ⟨rfl, rfl, (Below.refl _ _), rfl⟩
          · intro uF W hC' hU aF hF
            have hC : Below u14.heap.size u14 W := hC'
            clear hC'
            have h131 : (Det (.bool false)) (uF 38) W := hU.1
            clear hU
            simp only [puts, Act.put, List.setIfInBounds_toArray, List.set_cons_zero, List.set_cons_succ] at hF
            generalize uF 38 = x131 at h131 hF
            obtain rfl : x131 = (.bool false) := h131
            subst hF
            go_wp2_with (fail)
            exact ⟨rfl, rfl, (Below.refl _ _), rfl⟩
          · intro uF W hC' hU aF hF
            have hC : Below u14.heap.size u14 W := hC'
            clear hC'
            have h132 : (Det (.pointer (some ⟨gt, 2, none⟩))) (uF 39) W := hU.1
            have h131 : (Det (.bool false)) (uF 38) W := hU.2.1
            clear hU
            simp only [puts, Act.put, List.setIfInBounds_toArray, List.set_cons_zero, List.set_cons_succ] at hF
            generalize uF 39 = x132 at h132 hF
            generalize uF 38 = x131 at h131 hF
            obtain rfl : x132 = (.pointer (some ⟨gt, 2, none⟩)) := h132
            obtain rfl : x131 = (.bool false) := h131
            subst hF
            have d1 : W.cell? ⟨gt, 2, none⟩ = some (.bool out.taken) := by rw [(BTD.out.below hC BTD.out.lt).cell]; rfl
            go_wp2_with (fail)
            exact ⟨rfl, rfl, (Below.refl _ _), rfl⟩
          · intro uF W hC' hU aF hF
            have hC : Below u14.heap.size u14 W := hC'
            clear hC'
            have h131 : (Det (.bool false)) (uF 38) W := hU.1
            clear hU
            simp only [puts, Act.put, List.setIfInBounds_toArray, List.set_cons_zero, List.set_cons_succ] at hF
            generalize uF 38 = x131 at h131 hF
            obtain rfl : x131 = (.bool false) := h131
            subst hF
            go_wp2_with (fail)
            exact ⟨rfl, rfl, (Below.refl _ _), rfl⟩
          · intro uF W hC' hU aF hF
            have hC : Below u14.heap.size u14 W := hC'
            clear hC'
            have h133 : (Det (.bool out.taken)) (uF 40) W := hU.1
            have h134 : (Det (.bool out.taken)) (uF 41) W := hU.2.1
            have h131 : (Det (.bool false)) (uF 38) W := hU.2.2.1
            clear hU
            simp only [puts, Act.put, List.setIfInBounds_toArray, List.set_cons_zero, List.set_cons_succ] at hF
            generalize uF 40 = x133 at h133 hF
            generalize uF 41 = x134 at h134 hF
            generalize uF 38 = x131 at h131 hF
            obtain rfl : x133 = (.bool out.taken) := h133
            obtain rfl : x134 = (.bool out.taken) := h134
            obtain rfl : x131 = (.bool false) := h131
            subst hF
            go_wp2_with (fail)
            exact ⟨rfl, rfl, (Below.refl _ _), rfl⟩
          · intro uF W hC' hU aF hF
            have hC : Below u14.heap.size u14 W := hC'
            clear hC'
            have h131 : (Det (.bool false)) (uF 38) W := hU.1
            have h135 : (Det (.bool false)) (uF 42) W := hU.2.1
            clear hU
            simp only [puts, Act.put, List.setIfInBounds_toArray, List.set_cons_zero, List.set_cons_succ] at hF
            generalize uF 38 = x131 at h131 hF
            generalize uF 42 = x135 at h135 hF
            obtain rfl : x131 = (.bool false) := h131
            obtain rfl : x135 = (.bool false) := h135
            subst hF
            go_wp2_with (fail)
            exact ⟨rfl, rfl, (Below.refl _ _), rfl⟩
        intro uF W15 hC' hU aF hF
        have hCW15 : Below u14.heap.size u14 W15 := hC'
        clear hC'
        have h136 : (Det (.bool false)) (uF 43) W15 := hU.2.2.2.2.2.2.2.2.2.2.2.2.2.2.2.2.2.2.2.2.2.2.2.2.2.2.2.2.2.2.2.2.2.2.2.2.2.2.2.2.2.2.2.1
        clear hU
        simp only [puts, Act.put, List.setIfInBounds_toArray, List.set_cons_zero, List.set_cons_succ] at hF
        generalize uF 0 = x93 at hF
        generalize uF 1 = x94 at hF
        generalize uF 2 = x95 at hF
        generalize uF 3 = x96 at hF
        generalize uF 4 = x97 at hF
        generalize uF 5 = x98 at hF
        generalize uF 6 = x99 at hF
        generalize uF 7 = x100 at hF
        generalize uF 8 = x101 at hF
        generalize uF 9 = x102 at hF
        generalize uF 10 = x103 at hF
        generalize uF 11 = x104 at hF
        generalize uF 12 = x105 at hF
        generalize uF 13 = x106 at hF
        generalize uF 14 = x107 at hF
        generalize uF 15 = x108 at hF
        generalize uF 16 = x109 at hF
        generalize uF 17 = x110 at hF
        generalize uF 18 = x111 at hF
        generalize uF 19 = x112 at hF
        generalize uF 20 = x113 at hF
        generalize uF 21 = x114 at hF
        generalize uF 22 = x115 at hF
        generalize uF 23 = x116 at hF
        generalize uF 24 = x117 at hF
        generalize uF 25 = x118 at hF
        generalize uF 26 = x119 at hF
        generalize uF 27 = x120 at hF
        generalize uF 28 = x121 at hF
        generalize uF 29 = x122 at hF
        generalize uF 30 = x123 at hF
        generalize uF 31 = x124 at hF
        generalize uF 32 = x125 at hF
        generalize uF 33 = x126 at hF
        generalize uF 34 = x127 at hF
        generalize uF 35 = x128 at hF
        generalize uF 36 = x129 at hF
        generalize uF 37 = x130 at hF
        generalize uF 38 = x131 at hF
        generalize uF 39 = x132 at hF
        generalize uF 40 = x133 at hF
        generalize uF 41 = x134 at hF
        generalize uF 42 = x135 at hF
        generalize uF 43 = x136 at h136 hF
        obtain rfl : x136 = (.bool false) := h136
        subst hF
        have hdr := hdrf
        by_cases h2 : s1.st = 2
        · skip
          have HZ := Lib.hid (show (if s1.st = 2 then s1.nx else 0) = (nxr s1) by rfl)
          have s2n : (s1.st != 2) = false := by simp [h2]
          have hss : (s1.st != s1.st) = false := by simp
          have hgg0 : ((s1.gr : Int) != (s1.gr : Int)) = false := by simp
          have hzz : ((nxr s1) != ((nxr s1) : Int)) = false := by simp
          have hz15 := hCW15.size
          have HEE := Lib.hid (HED.out.below hCW15)
          have B4E := Lib.hid (B4D.out.below hCW15 B4D.out.lt)
          have B6E := Lib.hid (B6D.out.below hCW15 B6D.out.lt)
          have BCE := Lib.hid (BCD.out.below hCW15 BCD.out.lt)
          have HBME := Lib.hid (HBMD.out.below hCW15 HBMD.out.lt)
          have HCME := Lib.hid (HCMD.out.below hCW15)
          have HWE := Lib.hid (HWD.out.trans (hCW15.mono hcmz))
          have hb2e : b2 ≤ W15.heap.size := Nat.le_trans hb2d hz15
          have hwe := HWE.out.size
          (try rw [hdr])
          clear h2 hdr HED B4D B6D BCD HBMD HCMD HWD hCW15 hdd0 htt0
          have HEB := HEE
          have B4B := B4E
          have BCB := BCE
          have HBMB := HBME
          have HCMB := HCME
          have HWB := HWE
          have hb2b := hb2e
          have HMDB := Lib.hid (HMD.out W15 HCMB.out HBMB.out HWB.out)
          have e4b : W15.cell? ⟨gm, 4, none⟩ = some (.slice A83 N1 C83) := by rw [HBMB.out.cell]; rfl
          go_wp2_with (go_at_call 26; have hsr := state_r N1 (Nat.le_refl _) HMDB.out; rw [HTK.out, HS1.out] at hsr; refine hsr.mono ?_; rintro e wc ⟨rfl, hbc⟩)
          have HEW := Lib.hid (HEB.out.below hbc)
          have HBMW := Lib.hid (HBMB.out.below hbc HBMB.out.lt)
          have HMDW := Lib.hid (HMDB.out.below hbc)
          refine wp_region_rel (fun W W' => Below W.heap.size W W') (fun W => Below wc.heap.size wc W)
            [Det (.pointer (some ⟨gs, 0, none⟩)), Det (.int .i64 s1.st), Det (.int .i64 s1.st), Det (.bool false), Det (.bool false), Det (.pointer (some ⟨gs, 0, none⟩)), Det (.int .i64 (nxr s1)), Det (.int .i64 (nxr s1)), Det (.bool false), Det (.bool false), Det (.bool false), Det (.pointer (some ⟨gs, 0, none⟩)), Det (.int .i64 (s1.gr : Int)), Det (.pointer (some ⟨gm, 0, none⟩)), Det (.pointer (some ⟨gm, 0, none⟩)), Det (.pointer (some ⟨gm, 0, none⟩)), Det (.pointer (some ⟨gm, 4, none⟩)), Det (.slice A83 N1 C83), Det (.int .i64 (N1 : Int)), Det (.int .i64 (s1.gr : Int)), Det (.bool false), Det (.bool false)]
            [[], [(0, some 152)], [], [(1, some 153), (2, some 154)], [(3, some 155)], [(4, some 156)], [(5, some 157), (4, some 156)], [(4, some 156)], [(6, some 158), (7, some 159), (4, some 156)], [(4, some 156), (8, some 160)], [(9, some 161)], [(10, some 162)], [(11, some 163), (10, some 162)], [(10, some 162)], [(10, some 162)], [(14, some 166), (10, some 162)], [(15, some 167), (10, some 162)], [(16, some 168), (10, some 162)], [(17, some 169), (10, some 162)], [(13, some 165), (18, some 170), (10, some 162)], [(12, some 164), (19, some 171), (10, some 162)], [(10, some 162), (20, some 172)]]
            [[], [0], [], [0, 1, 2], [0, 1, 2, 3], [0, 1, 2, 3, 4], [0, 1, 2, 3, 4, 5], [0, 1, 2, 3, 4], [0, 1, 2, 3, 4, 5, 6, 7], [0, 1, 2, 3, 4, 5, 6, 7, 8], [0, 1, 2, 3, 4, 5, 6, 7, 8, 9], [0, 1, 2, 3, 4, 5, 6, 7, 8, 9, 10], [0, 1, 2, 3, 4, 5, 6, 7, 8, 9, 10, 11], [0, 1, 2, 3, 4, 5, 6, 7, 8, 9, 10], [0, 1, 2, 3, 4, 5, 6, 7, 8, 9, 10], [0, 1, 2, 3, 4, 5, 6, 7, 8, 9, 10, 14], [0, 1, 2, 3, 4, 5, 6, 7, 8, 9, 10, 14, 15], [0, 1, 2, 3, 4, 5, 6, 7, 8, 9, 10, 14, 15, 16], [0, 1, 2, 3, 4, 5, 6, 7, 8, 9, 10, 14, 15, 16, 17], [0, 1, 2, 3, 4, 5, 6, 7, 8, 9, 10, 11, 12, 13, 14, 15, 16, 17, 18], [0, 1, 2, 3, 4, 5, 6, 7, 8, 9, 10, 11, 12, 13, 14, 15, 16, 17, 18, 19], [0, 1, 2, 3, 4, 5, 6, 7, 8, 9, 10, 11, 12, 13, 14, 15, 16, 17, 18, 19, 20]]
            [(0, some 152), (1, some 153), (2, some 154), (3, some 155), (4, some 156), (5, some 157), (6, some 158), (7, some 159), (8, some 160), (9, some 161), (10, some 162), (11, some 163), (12, some 164), (13, some 165), (14, some 166), (15, some 167), (16, some 168), (17, some 169), (18, some 170), (19, some 171), (20, some 172), (21, some 173)] (by kernel_rfl) (by kernel_rfl) (fun W W' h1 h2 => h1.trans (h2.mono h1.size)) ((Below.refl _ _).drew) ?_ ?_ ?_
          · exact (AllMono.cons Det.later (AllMono.cons Det.later (AllMono.cons Det.later (AllMono.cons Det.later (AllMono.cons Det.later (AllMono.cons Det.later (AllMono.cons Det.later (AllMono.cons Det.later (AllMono.cons Det.later (AllMono.cons Det.later (AllMono.cons Det.later (AllMono.cons Det.later (AllMono.cons Det.later (AllMono.cons Det.later (AllMono.cons Det.later (AllMono.cons Det.later (AllMono.cons Det.later (AllMono.cons Det.later (AllMono.cons Det.later (AllMono.cons Det.later (AllMono.cons Det.later (AllMono.cons Det.later AllMono.nil))))))))))))))))))))))
          · refine AllOb.cons ?_ (AllOb.cons ?_ (AllOb.cons ?_ (AllOb.cons ?_ (AllOb.cons ?_ (AllOb.cons ?_ (AllOb.cons ?_ (AllOb.cons ?_ (AllOb.cons ?_ (AllOb.cons ?_ (AllOb.cons ?_ (AllOb.cons ?_ (AllOb.cons ?_ (AllOb.cons ?_ (AllOb.cons ?_ (AllOb.cons ?_ (AllOb.cons ?_ (AllOb.cons ?_ (AllOb.cons ?_ (AllOb.cons ?_ (AllOb.cons ?_ (AllOb.cons ?_ (AllOb.nil))))))))))))))))))))))
            · intro uF W hC' hU aF hF
              have hC : Below wc.heap.size wc W := hC'
              clear hC'
              simp only [puts] at hF
              subst hF
              go_wp2_with (fail)
              exact ⟨rfl, rfl, (Below.refl _ _), rfl⟩
            · intro uF W hC' hU aF hF
              have hC : Below wc.heap.size wc W := hC'
              clear hC'
              have h152 : (Det (.pointer (some ⟨gs, 0, none⟩))) (uF 0) W := hU.1
              clear hU
              simp only [puts, Act.put, List.setIfInBounds_toArray, List.set_cons_zero, List.set_cons_succ] at hF
              generalize uF 0 = x152 at h152 hF
              obtain rfl : x152 = (.pointer (some ⟨gs, 0, none⟩)) := h152
              subst hF
              go_wp2_with ((go_at_call 15; refine (state_c (HEW.out.below hC)).mono ?_; rintro e W1 ⟨rfl, rfl⟩))
              exact ⟨rfl, rfl, (Below.refl _ _), rfl⟩
            · intro uF W hC' hU aF hF
              have hC : Below wc.heap.size wc W := hC'
              clear hC'
              simp only [puts] at hF
              subst hF
              go_wp2_with (fail)
              exact ⟨rfl, rfl, (Below.refl _ _), rfl⟩
            · intro uF W hC' hU aF hF
              have hC : Below wc.heap.size wc W := hC'
              clear hC'
              have h153 : (Det (.int .i64 s1.st)) (uF 1) W := hU.1
              have h154 : (Det (.int .i64 s1.st)) (uF 2) W := hU.2.1
              clear hU
              simp only [puts, Act.put, List.setIfInBounds_toArray, List.set_cons_zero, List.set_cons_succ] at hF
              generalize uF 1 = x153 at h153 hF
              generalize uF 2 = x154 at h154 hF
              obtain rfl : x153 = (.int .i64 s1.st) := h153
              obtain rfl : x154 = (.int .i64 s1.st) := h154
              subst hF
              go_wp2_with (fail)
              exact ⟨rfl, rfl, (Below.refl _ _), rfl⟩
            · intro uF W hC' hU aF hF
              have hC : Below wc.heap.size wc W := hC'
              clear hC'
              have h155 : (Det (.bool false)) (uF 3) W := hU.1
              clear hU
              simp only [puts, Act.put, List.setIfInBounds_toArray, List.set_cons_zero, List.set_cons_succ] at hF
              generalize uF 3 = x155 at h155 hF
              obtain rfl : x155 = (.bool false) := h155
              subst hF
              go_wp2_with (fail)
              exact ⟨rfl, rfl, (Below.refl _ _), rfl⟩
            · intro uF W hC' hU aF hF
              have hC : Below wc.heap.size wc W := hC'
              clear hC'
              have h156 : (Det (.bool false)) (uF 4) W := hU.1
              clear hU
              simp only [puts, Act.put, List.setIfInBounds_toArray, List.set_cons_zero, List.set_cons_succ] at hF
              generalize uF 4 = x156 at h156 hF
              obtain rfl : x156 = (.bool false) := h156
              subst hF
              go_wp2_with (fail)
              exact ⟨rfl, rfl, (Below.refl _ _), rfl⟩
            · intro uF W hC' hU aF hF
              have hC : Below wc.heap.size wc W := hC'
              clear hC'
              have h157 : (Det (.pointer (some ⟨gs, 0, none⟩))) (uF 5) W := hU.1
              have h156 : (Det (.bool false)) (uF 4) W := hU.2.1
              clear hU
              simp only [puts, Act.put, List.setIfInBounds_toArray, List.set_cons_zero, List.set_cons_succ] at hF
              generalize uF 5 = x157 at h157 hF
              generalize uF 4 = x156 at h156 hF
              obtain rfl : x157 = (.pointer (some ⟨gs, 0, none⟩)) := h157
              obtain rfl : x156 = (.bool false) := h156
              subst hF
              go_wp2_with ((go_at_call 16; refine (next_c (HEW.out.below hC) (nxr s1) HZ.out).mono ?_; rintro e W1 ⟨rfl, rfl⟩))
              exact ⟨rfl, rfl, (Below.refl _ _), rfl⟩
            · intro uF W hC' hU aF hF
              have hC : Below wc.heap.size wc W := hC'
              clear hC'
              have h156 : (Det (.bool false)) (uF 4) W := hU.1
              clear hU
              simp only [puts, Act.put, List.setIfInBounds_toArray, List.set_cons_zero, List.set_cons_succ] at hF
              generalize uF 4 = x156 at h156 hF
              obtain rfl : x156 = (.bool false) := h156
              subst hF
              go_wp2_with (fail)
              exact ⟨rfl, rfl, (Below.refl _ _), rfl⟩
            · intro uF W hC' hU aF hF
              have hC : Below wc.heap.size wc W := hC'
              clear hC'
              have h158 : (Det (.int .i64 (nxr s1))) (uF 6) W := hU.1
              have h159 : (Det (.int .i64 (nxr s1))) (uF 7) W := hU.2.1
              have h156 : (Det (.bool false)) (uF 4) W := hU.2.2.1
              clear hU
              simp only [puts, Act.put, List.setIfInBounds_toArray, List.set_cons_zero, List.set_cons_succ] at hF
              generalize uF 6 = x158 at h158 hF
              generalize uF 7 = x159 at h159 hF
              generalize uF 4 = x156 at h156 hF
              obtain rfl : x158 = (.int .i64 (nxr s1)) := h158
              obtain rfl : x159 = (.int .i64 (nxr s1)) := h159
              obtain rfl : x156 = (.bool false) := h156
              subst hF
              go_wp2_with (fail)
              exact ⟨rfl, rfl, (Below.refl _ _), rfl⟩
            · intro uF W hC' hU aF hF
              have hC : Below wc.heap.size wc W := hC'
              clear hC'
              have h156 : (Det (.bool false)) (uF 4) W := hU.1
              have h160 : (Det (.bool false)) (uF 8) W := hU.2.1
              clear hU
              simp only [puts, Act.put, List.setIfInBounds_toArray, List.set_cons_zero, List.set_cons_succ] at hF
              generalize uF 4 = x156 at h156 hF
              generalize uF 8 = x160 at h160 hF
              obtain rfl : x156 = (.bool false) := h156
              obtain rfl : x160 = (.bool false) := h160
              subst hF
              go_wp2_with (fail)
              exact ⟨rfl, rfl, (Below.refl _ _), rfl⟩
            · intro uF W hC' hU aF hF
              have hC : Below wc.heap.size wc W := hC'
              clear hC'
              have h161 : (Det (.bool false)) (uF 9) W := hU.1
              clear hU
              simp only [puts, Act.put, List.setIfInBounds_toArray, List.set_cons_zero, List.set_cons_succ] at hF
              generalize uF 9 = x161 at h161 hF
              obtain rfl : x161 = (.bool false) := h161
              subst hF
              go_wp2_with (fail)
              exact ⟨rfl, rfl, (Below.refl _ _), rfl⟩
            · intro uF W hC' hU aF hF
              have hC : Below wc.heap.size wc W := hC'
              clear hC'
              have h162 : (Det (.bool false)) (uF 10) W := hU.1
              clear hU
              simp only [puts, Act.put, List.setIfInBounds_toArray, List.set_cons_zero, List.set_cons_succ] at hF
              generalize uF 10 = x162 at h162 hF
              obtain rfl : x162 = (.bool false) := h162
              subst hF
              go_wp2_with (fail)
              exact ⟨rfl, rfl, (Below.refl _ _), rfl⟩
            · intro uF W hC' hU aF hF
              have hC : Below wc.heap.size wc W := hC'
              clear hC'
              have h163 : (Det (.pointer (some ⟨gs, 0, none⟩))) (uF 11) W := hU.1
              have h162 : (Det (.bool false)) (uF 10) W := hU.2.1
              clear hU
              simp only [puts, Act.put, List.setIfInBounds_toArray, List.set_cons_zero, List.set_cons_succ] at hF
              generalize uF 11 = x163 at h163 hF
              generalize uF 10 = x162 at h162 hF
              obtain rfl : x163 = (.pointer (some ⟨gs, 0, none⟩)) := h163
              obtain rfl : x162 = (.bool false) := h162
              subst hF
              go_wp2_with ((go_at_call 22; refine (greeted_c (HEW.out.below hC)).mono ?_; rintro e W1 ⟨rfl, rfl⟩))
              exact ⟨rfl, rfl, (Below.refl _ _), rfl⟩
            · intro uF W hC' hU aF hF
              have hC : Below wc.heap.size wc W := hC'
              clear hC'
              have h162 : (Det (.bool false)) (uF 10) W := hU.1
              clear hU
              simp only [puts, Act.put, List.setIfInBounds_toArray, List.set_cons_zero, List.set_cons_succ] at hF
              generalize uF 10 = x162 at h162 hF
              obtain rfl : x162 = (.bool false) := h162
              subst hF
              go_wp2_with (fail)
              exact ⟨rfl, rfl, (Below.refl _ _), rfl⟩
            · intro uF W hC' hU aF hF
              have hC : Below wc.heap.size wc W := hC'
              clear hC'
              have h162 : (Det (.bool false)) (uF 10) W := hU.1
              clear hU
              simp only [puts, Act.put, List.setIfInBounds_toArray, List.set_cons_zero, List.set_cons_succ] at hF
              generalize uF 10 = x162 at h162 hF
              obtain rfl : x162 = (.bool false) := h162
              subst hF
              go_wp2_with (fail)
              exact ⟨rfl, rfl, (Below.refl _ _), rfl⟩
            · intro uF W hC' hU aF hF
              have hC : Below wc.heap.size wc W := hC'
              clear hC'
              have h166 : (Det (.pointer (some ⟨gm, 0, none⟩))) (uF 14) W := hU.1
              have h162 : (Det (.bool false)) (uF 10) W := hU.2.1
              clear hU
              simp only [puts, Act.put, List.setIfInBounds_toArray, List.set_cons_zero, List.set_cons_succ] at hF
              generalize uF 14 = x166 at h166 hF
              generalize uF 10 = x162 at h162 hF
              obtain rfl : x166 = (.pointer (some ⟨gm, 0, none⟩)) := h166
              obtain rfl : x162 = (.bool false) := h162
              subst hF
              go_wp2_with (fail)
              exact ⟨rfl, rfl, (Below.refl _ _), rfl⟩
            · intro uF W hC' hU aF hF
              have hC : Below wc.heap.size wc W := hC'
              clear hC'
              have h167 : (Det (.pointer (some ⟨gm, 0, none⟩))) (uF 15) W := hU.1
              have h162 : (Det (.bool false)) (uF 10) W := hU.2.1
              clear hU
              simp only [puts, Act.put, List.setIfInBounds_toArray, List.set_cons_zero, List.set_cons_succ] at hF
              generalize uF 15 = x167 at h167 hF
              generalize uF 10 = x162 at h162 hF
              obtain rfl : x167 = (.pointer (some ⟨gm, 0, none⟩)) := h167
              obtain rfl : x162 = (.bool false) := h162
              subst hF
              go_wp2_with (fail)
              exact ⟨rfl, rfl, (Below.refl _ _), rfl⟩
            · intro uF W hC' hU aF hF
              have hC : Below wc.heap.size wc W := hC'
              clear hC'
              have h168 : (Det (.pointer (some ⟨gm, 4, none⟩))) (uF 16) W := hU.1
              have h162 : (Det (.bool false)) (uF 10) W := hU.2.1
              clear hU
              simp only [puts, Act.put, List.setIfInBounds_toArray, List.set_cons_zero, List.set_cons_succ] at hF
              generalize uF 16 = x168 at h168 hF
              generalize uF 10 = x162 at h162 hF
              obtain rfl : x168 = (.pointer (some ⟨gm, 4, none⟩)) := h168
              obtain rfl : x162 = (.bool false) := h162
              subst hF
              have d1 : W.cell? ⟨gm, 4, none⟩ = some (.slice A83 N1 C83) := by rw [(HBMW.out.below hC HBMW.out.lt).cell]; rfl
              go_wp2_with (fail)
              exact ⟨rfl, rfl, (Below.refl _ _), rfl⟩
            · intro uF W hC' hU aF hF
              have hC : Below wc.heap.size wc W := hC'
              clear hC'
              have h169 : (Det (.slice A83 N1 C83)) (uF 17) W := hU.1
              have h162 : (Det (.bool false)) (uF 10) W := hU.2.1
              clear hU
              simp only [puts, Act.put, List.setIfInBounds_toArray, List.set_cons_zero, List.set_cons_succ] at hF
              generalize uF 17 = x169 at h169 hF
              generalize uF 10 = x162 at h162 hF
              obtain rfl : x169 = (.slice A83 N1 C83) := h169
              obtain rfl : x162 = (.bool false) := h162
              subst hF
              go_wp2_with (fail)
              exact ⟨rfl, rfl, (Below.refl _ _), rfl⟩
            · intro uF W hC' hU aF hF
              have hC : Below wc.heap.size wc W := hC'
              clear hC'
              have h165 : (Det (.pointer (some ⟨gm, 0, none⟩))) (uF 13) W := hU.1
              have h170 : (Det (.int .i64 (N1 : Int))) (uF 18) W := hU.2.1
              have h162 : (Det (.bool false)) (uF 10) W := hU.2.2.1
              clear hU
              simp only [puts, Act.put, List.setIfInBounds_toArray, List.set_cons_zero, List.set_cons_succ] at hF
              generalize uF 13 = x165 at h165 hF
              generalize uF 18 = x170 at h170 hF
              generalize uF 10 = x162 at h162 hF
              obtain rfl : x165 = (.pointer (some ⟨gm, 0, none⟩)) := h165
              obtain rfl : x170 = (.int .i64 (N1 : Int)) := h170
              obtain rfl : x162 = (.bool false) := h162
              subst hF
              go_wp2_with ((go_at_call 27; have hgg := greeted_r (HMDW.out.below hC) N1 (Nat.le_refl _); rw [HTK.out, HS1.out] at hgg; refine hgg.mono ?_; rintro e W1 ⟨rfl, hb⟩))
              exact ⟨rfl, rfl, hb, rfl⟩
            · intro uF W hC' hU aF hF
              have hC : Below wc.heap.size wc W := hC'
              clear hC'
              have h164 : (Det (.int .i64 (s1.gr : Int))) (uF 12) W := hU.1
              have h171 : (Det (.int .i64 (s1.gr : Int))) (uF 19) W := hU.2.1
              have h162 : (Det (.bool false)) (uF 10) W := hU.2.2.1
              clear hU
              simp only [puts, Act.put, List.setIfInBounds_toArray, List.set_cons_zero, List.set_cons_succ] at hF
              generalize uF 12 = x164 at h164 hF
              generalize uF 19 = x171 at h171 hF
              generalize uF 10 = x162 at h162 hF
              obtain rfl : x164 = (.int .i64 (s1.gr : Int)) := h164
              obtain rfl : x171 = (.int .i64 (s1.gr : Int)) := h171
              obtain rfl : x162 = (.bool false) := h162
              subst hF
              go_wp2_with (fail)
              exact ⟨rfl, rfl, (Below.refl _ _), rfl⟩
            · intro uF W hC' hU aF hF
              have hC : Below wc.heap.size wc W := hC'
              clear hC'
              have h162 : (Det (.bool false)) (uF 10) W := hU.1
              have h172 : (Det (.bool false)) (uF 20) W := hU.2.1
              clear hU
              simp only [puts, Act.put, List.setIfInBounds_toArray, List.set_cons_zero, List.set_cons_succ] at hF
              generalize uF 10 = x162 at h162 hF
              generalize uF 20 = x172 at h172 hF
              obtain rfl : x162 = (.bool false) := h162
              obtain rfl : x172 = (.bool false) := h172
              subst hF
              go_wp2_with (fail)
              exact ⟨rfl, rfl, (Below.refl _ _), rfl⟩
          intro uF WZ hC' hU aF hF
          have hCWZ : Below wc.heap.size wc WZ := hC'
          clear hC'
          have h173 : (Det (.bool false)) (uF 21) WZ := hU.2.2.2.2.2.2.2.2.2.2.2.2.2.2.2.2.2.2.2.2.2.1
          clear hU
          simp only [puts, Act.put, List.setIfInBounds_toArray, List.set_cons_zero, List.set_cons_succ] at hF
          generalize uF 0 = x152 at hF
          generalize uF 1 = x153 at hF
          generalize uF 2 = x154 at hF
          generalize uF 3 = x155 at hF
          generalize uF 4 = x156 at hF
          generalize uF 5 = x157 at hF
          generalize uF 6 = x158 at hF
          generalize uF 7 = x159 at hF
          generalize uF 8 = x160 at hF
          generalize uF 9 = x161 at hF
          generalize uF 10 = x162 at hF
          generalize uF 11 = x163 at hF
          generalize uF 12 = x164 at hF
          generalize uF 13 = x165 at hF
          generalize uF 14 = x166 at hF
          generalize uF 15 = x167 at hF
          generalize uF 16 = x168 at hF
          generalize uF 17 = x169 at hF
          generalize uF 18 = x170 at hF
          generalize uF 19 = x171 at hF
          generalize uF 20 = x172 at hF
          generalize uF 21 = x173 at h173 hF
          obtain rfl : x173 = (.bool false) := h173
          subst hF
          go_wp2_with fail
          have hb := hbc.trans (hCWZ.mono hbc.size)
          have hN := HN1.out
          have hbd := hbnd.out
          have hgr9 := HGR.out
          have hnx9 := HNX.out
          have hl1 := HLEN1.out
          subst hN
          exact ⟨⟨i + 1, s1, el, A83, C83, cs ++ [cv], by omega, by go_num, by omega, ⟨hbd.2.1, by omega⟩, HEL.out, ⟨hl1, HS1.out, Nat.le_trans hb2b hb.size⟩, HEB.out.below hb, B4B.out.below hb B4B.out.lt, BCB.out.below hb BCB.out.lt, HBMB.out.below hb HBMB.out.lt, HCMB.out.below hb, HWB.out.trans (hb.mono HWB.out.size)⟩, by simp [intOf]; omega⟩
        · skip
          have HZ := Lib.hid (show (if s1.st = 2 then s1.nx else 0) = 0 by rw [if_neg h2])
          have s2n : (s1.st != 2) = true := by simpa using h2
          have hss : (s1.st != s1.st) = false := by simp
          have hgg0 : ((s1.gr : Int) != (s1.gr : Int)) = false := by simp
          have hzz : (0 != (0 : Int)) = false := by simp
          have hz15 := hCW15.size
          have HEE := Lib.hid (HED.out.below hCW15)
          have B4E := Lib.hid (B4D.out.below hCW15 B4D.out.lt)
          have B6E := Lib.hid (B6D.out.below hCW15 B6D.out.lt)
          have BCE := Lib.hid (BCD.out.below hCW15 BCD.out.lt)
          have HBME := Lib.hid (HBMD.out.below hCW15 HBMD.out.lt)
          have HCME := Lib.hid (HCMD.out.below hCW15)
          have HWE := Lib.hid (HWD.out.trans (hCW15.mono hcmz))
          have hb2e : b2 ≤ W15.heap.size := Nat.le_trans hb2d hz15
          have hwe := HWE.out.size
          (try rw [hdr])
          clear h2 hdr HED B4D B6D BCD HBMD HCMD HWD hCW15 hdd0 htt0
          have HEB := HEE
          have B4B := B4E
          have BCB := BCE
          have HBMB := HBME
          have HCMB := HCME
          have HWB := HWE
          have hb2b := hb2e
          have HMDB := Lib.hid (HMD.out W15 HCMB.out HBMB.out HWB.out)
          have e4b : W15.cell? ⟨gm, 4, none⟩ = some (.slice A83 N1 C83) := by rw [HBMB.out.cell]; rfl
          go_wp2_with (go_at_call 26; have hsr := state_r N1 (Nat.le_refl _) HMDB.out; rw [HTK.out, HS1.out] at hsr; refine hsr.mono ?_; rintro e wc ⟨rfl, hbc⟩)
          have HEW := Lib.hid (HEB.out.below hbc)
          have HBMW := Lib.hid (HBMB.out.below hbc HBMB.out.lt)
          have HMDW := Lib.hid (HMDB.out.below hbc)
          refine wp_region_rel (fun W W' => Below W.heap.size W W') (fun W => Below wc.heap.size wc W)
            [Det (.pointer (some ⟨gs, 0, none⟩)), Det (.int .i64 s1.st), Det (.int .i64 s1.st), Det (.bool false), Det (.bool false), Det (.pointer (some ⟨gs, 0, none⟩)), Det (.int .i64 0), Det (.int .i64 0), Det (.bool false), Det (.bool false), Det (.bool false), Det (.pointer (some ⟨gs, 0, none⟩)), Det (.int .i64 (s1.gr : Int)), Det (.pointer (some ⟨gm, 0, none⟩)), Det (.pointer (some ⟨gm, 0, none⟩)), Det (.pointer (some ⟨gm, 0, none⟩)), Det (.pointer (some ⟨gm, 4, none⟩)), Det (.slice A83 N1 C83), Det (.int .i64 (N1 : Int)), Det (.int .i64 (s1.gr : Int)), Det (.bool false), Det (.bool false)]
            [[], [(0, some 152)], [], [(1, some 153), (2, some 154)], [(3, some 155)], [(4, some 156)], [(5, some 157), (4, some 156)], [(4, some 156)], [(6, some 158), (7, some 159), (4, some 156)], [(4, some 156), (8, some 160)], [(9, some 161)], [(10, some 162)], [(11, some 163), (10, some 162)], [(10, some 162)], [(10, some 162)], [(14, some 166), (10, some 162)], [(15, some 167), (10, some 162)], [(16, some 168), (10, some 162)], [(17, some 169), (10, some 162)], [(13, some 165), (18, some 170), (10, some 162)], [(12, some 164), (19, some 171), (10, some 162)], [(10, some 162), (20, some 172)]]
            [[], [0], [], [0, 1, 2], [0, 1, 2, 3], [0, 1, 2, 3, 4], [0, 1, 2, 3, 4, 5], [0, 1, 2, 3, 4], [0, 1, 2, 3, 4, 5, 6, 7], [0, 1, 2, 3, 4, 5, 6, 7, 8], [0, 1, 2, 3, 4, 5, 6, 7, 8, 9], [0, 1, 2, 3, 4, 5, 6, 7, 8, 9, 10], [0, 1, 2, 3, 4, 5, 6, 7, 8, 9, 10, 11], [0, 1, 2, 3, 4, 5, 6, 7, 8, 9, 10], [0, 1, 2, 3, 4, 5, 6, 7, 8, 9, 10], [0, 1, 2, 3, 4, 5, 6, 7, 8, 9, 10, 14], [0, 1, 2, 3, 4, 5, 6, 7, 8, 9, 10, 14, 15], [0, 1, 2, 3, 4, 5, 6, 7, 8, 9, 10, 14, 15, 16], [0, 1, 2, 3, 4, 5, 6, 7, 8, 9, 10, 14, 15, 16, 17], [0, 1, 2, 3, 4, 5, 6, 7, 8, 9, 10, 11, 12, 13, 14, 15, 16, 17, 18], [0, 1, 2, 3, 4, 5, 6, 7, 8, 9, 10, 11, 12, 13, 14, 15, 16, 17, 18, 19], [0, 1, 2, 3, 4, 5, 6, 7, 8, 9, 10, 11, 12, 13, 14, 15, 16, 17, 18, 19, 20]]
            [(0, some 152), (1, some 153), (2, some 154), (3, some 155), (4, some 156), (5, some 157), (6, some 158), (7, some 159), (8, some 160), (9, some 161), (10, some 162), (11, some 163), (12, some 164), (13, some 165), (14, some 166), (15, some 167), (16, some 168), (17, some 169), (18, some 170), (19, some 171), (20, some 172), (21, some 173)] (by kernel_rfl) (by kernel_rfl) (fun W W' h1 h2 => h1.trans (h2.mono h1.size)) ((Below.refl _ _).drew) ?_ ?_ ?_
          · exact (AllMono.cons Det.later (AllMono.cons Det.later (AllMono.cons Det.later (AllMono.cons Det.later (AllMono.cons Det.later (AllMono.cons Det.later (AllMono.cons Det.later (AllMono.cons Det.later (AllMono.cons Det.later (AllMono.cons Det.later (AllMono.cons Det.later (AllMono.cons Det.later (AllMono.cons Det.later (AllMono.cons Det.later (AllMono.cons Det.later (AllMono.cons Det.later (AllMono.cons Det.later (AllMono.cons Det.later (AllMono.cons Det.later (AllMono.cons Det.later (AllMono.cons Det.later (AllMono.cons Det.later AllMono.nil))))))))))))))))))))))
          · refine AllOb.cons ?_ (AllOb.cons ?_ (AllOb.cons ?_ (AllOb.cons ?_ (AllOb.cons ?_ (AllOb.cons ?_ (AllOb.cons ?_ (AllOb.cons ?_ (AllOb.cons ?_ (AllOb.cons ?_ (AllOb.cons ?_ (AllOb.cons ?_ (AllOb.cons ?_ (AllOb.cons ?_ (AllOb.cons ?_ (AllOb.cons ?_ (AllOb.cons ?_ (AllOb.cons ?_ (AllOb.cons ?_ (AllOb.cons ?_ (AllOb.cons ?_ (AllOb.cons ?_ (AllOb.nil))))))))))))))))))))))
            · intro uF W hC' hU aF hF
              have hC : Below wc.heap.size wc W := hC'
              clear hC'
              simp only [puts] at hF
              subst hF
              go_wp2_with (fail)
              exact ⟨rfl, rfl, (Below.refl _ _), rfl⟩
            · intro uF W hC' hU aF hF
              have hC : Below wc.heap.size wc W := hC'
              clear hC'
              have h152 : (Det (.pointer (some ⟨gs, 0, none⟩))) (uF 0) W := hU.1
              clear hU
              simp only [puts, Act.put, List.setIfInBounds_toArray, List.set_cons_zero, List.set_cons_succ] at hF
              generalize uF 0 = x152 at h152 hF
              obtain rfl : x152 = (.pointer (some ⟨gs, 0, none⟩)) := h152
              subst hF
              go_wp2_with ((go_at_call 15; refine (state_c (HEW.out.below hC)).mono ?_; rintro e W1 ⟨rfl, rfl⟩))
              exact ⟨rfl, rfl, (Below.refl _ _), rfl⟩
            · intro uF W hC' hU aF hF
              have hC : Below wc.heap.size wc W := hC'
              clear hC'
              simp only [puts] at hF
              subst hF
              go_wp2_with (fail)
              exact ⟨rfl, rfl, (Below.refl _ _), rfl⟩
            · intro uF W hC' hU aF hF
              have hC : Below wc.heap.size wc W := hC'
              clear hC'
              have h153 : (Det (.int .i64 s1.st)) (uF 1) W := hU.1
              have h154 : (Det (.int .i64 s1.st)) (uF 2) W := hU.2.1
              clear hU
              simp only [puts, Act.put, List.setIfInBounds_toArray, List.set_cons_zero, List.set_cons_succ] at hF
              generalize uF 1 = x153 at h153 hF
              generalize uF 2 = x154 at h154 hF
              obtain rfl : x153 = (.int .i64 s1.st) := h153
              obtain rfl : x154 = (.int .i64 s1.st) := h154
              subst hF
              go_wp2_with (fail)
              exact ⟨rfl, rfl, (Below.refl _ _), rfl⟩
            · intro uF W hC' hU aF hF
              have hC : Below wc.heap.size wc W := hC'
              clear hC'
              have h155 : (Det (.bool false)) (uF 3) W := hU.1
              clear hU
              simp only [puts, Act.put, List.setIfInBounds_toArray, List.set_cons_zero, List.set_cons_succ] at hF
              generalize uF 3 = x155 at h155 hF
              obtain rfl : x155 = (.bool false) := h155
              subst hF
              go_wp2_with (fail)
              exact ⟨rfl, rfl, (Below.refl _ _), rfl⟩
            · intro uF W hC' hU aF hF
              have hC : Below wc.heap.size wc W := hC'
              clear hC'
              have h156 : (Det (.bool false)) (uF 4) W := hU.1
              clear hU
              simp only [puts, Act.put, List.setIfInBounds_toArray, List.set_cons_zero, List.set_cons_succ] at hF
              generalize uF 4 = x156 at h156 hF
              obtain rfl : x156 = (.bool false) := h156
              subst hF
              go_wp2_with (fail)
              exact ⟨rfl, rfl, (Below.refl _ _), rfl⟩
            · intro uF W hC' hU aF hF
              have hC : Below wc.heap.size wc W := hC'
              clear hC'
              have h157 : (Det (.pointer (some ⟨gs, 0, none⟩))) (uF 5) W := hU.1
              have h156 : (Det (.bool false)) (uF 4) W := hU.2.1
              clear hU
              simp only [puts, Act.put, List.setIfInBounds_toArray, List.set_cons_zero, List.set_cons_succ] at hF
              generalize uF 5 = x157 at h157 hF
              generalize uF 4 = x156 at h156 hF
              obtain rfl : x157 = (.pointer (some ⟨gs, 0, none⟩)) := h157
              obtain rfl : x156 = (.bool false) := h156
              subst hF
              go_wp2_with ((go_at_call 16; refine (next_c (HEW.out.below hC) 0 HZ.out).mono ?_; rintro e W1 ⟨rfl, rfl⟩))
              exact ⟨rfl, rfl, (Below.refl _ _), rfl⟩
            · intro uF W hC' hU aF hF
              have hC : Below wc.heap.size wc W := hC'
              clear hC'
              have h156 : (Det (.bool false)) (uF 4) W := hU.1
              clear hU
              simp only [puts, Act.put, List.setIfInBounds_toArray, List.set_cons_zero, List.set_cons_succ] at hF
              generalize uF 4 = x156 at h156 hF
              obtain rfl : x156 = (.bool false) := h156
              subst hF
              go_wp2_with (fail)
              exact ⟨rfl, rfl, (Below.refl _ _), rfl⟩
            · intro uF W hC' hU aF hF
              have hC : Below wc.heap.size wc W := hC'
              clear hC'
              have h158 : (Det (.int .i64 0)) (uF 6) W := hU.1
              have h159 : (Det (.int .i64 0)) (uF 7) W := hU.2.1
              have h156 : (Det (.bool false)) (uF 4) W := hU.2.2.1
              clear hU
              simp only [puts, Act.put, List.setIfInBounds_toArray, List.set_cons_zero, List.set_cons_succ] at hF
              generalize uF 6 = x158 at h158 hF
              generalize uF 7 = x159 at h159 hF
              generalize uF 4 = x156 at h156 hF
              obtain rfl : x158 = (.int .i64 0) := h158
              obtain rfl : x159 = (.int .i64 0) := h159
              obtain rfl : x156 = (.bool false) := h156
              subst hF
              go_wp2_with (fail)
              exact ⟨rfl, rfl, (Below.refl _ _), rfl⟩
            · intro uF W hC' hU aF hF
              have hC : Below wc.heap.size wc W := hC'
              clear hC'
              have h156 : (Det (.bool false)) (uF 4) W := hU.1
              have h160 : (Det (.bool false)) (uF 8) W := hU.2.1
              clear hU
              simp only [puts, Act.put, List.setIfInBounds_toArray, List.set_cons_zero, List.set_cons_succ] at hF
              generalize uF 4 = x156 at h156 hF
              generalize uF 8 = x160 at h160 hF
              obtain rfl : x156 = (.bool false) := h156
              obtain rfl : x160 = (.bool false) := h160
              subst hF
              go_wp2_with (fail)
              exact ⟨rfl, rfl, (Below.refl _ _), rfl⟩
            · intro uF W hC' hU aF hF
              have hC : Below wc.heap.size wc W := hC'
              clear hC'
              have h161 : (Det (.bool false)) (uF 9) W := hU.1
              clear hU
              simp only [puts, Act.put, List.setIfInBounds_toArray, List.set_cons_zero, List.set_cons_succ] at hF
              generalize uF 9 = x161 at h161 hF
              obtain rfl : x161 = (.bool false) := h161
              subst hF
              go_wp2_with (fail)
              exact ⟨rfl, rfl, (Below.refl _ _), rfl⟩
            · intro uF W hC' hU aF hF
              have hC : Below wc.heap.size wc W := hC'
              clear hC'
              have h162 : (Det (.bool false)) (uF 10) W := hU.1
              clear hU
              simp only [puts, Act.put, List.setIfInBounds_toArray, List.set_cons_zero, List.set_cons_succ] at hF
              generalize uF 10 = x162 at h162 hF
              obtain rfl : x162 = (.bool false) := h162
              subst hF
              go_wp2_with (fail)
              exact ⟨rfl, rfl, (Below.refl _ _), rfl⟩
            · intro uF W hC' hU aF hF
              have hC : Below wc.heap.size wc W := hC'
              clear hC'
              have h163 : (Det (.pointer (some ⟨gs, 0, none⟩))) (uF 11) W := hU.1
              have h162 : (Det (.bool false)) (uF 10) W := hU.2.1
              clear hU
              simp only [puts, Act.put, List.setIfInBounds_toArray, List.set_cons_zero, List.set_cons_succ] at hF
              generalize uF 11 = x163 at h163 hF
              generalize uF 10 = x162 at h162 hF
              obtain rfl : x163 = (.pointer (some ⟨gs, 0, none⟩)) := h163
              obtain rfl : x162 = (.bool false) := h162
              subst hF
              go_wp2_with ((go_at_call 22; refine (greeted_c (HEW.out.below hC)).mono ?_; rintro e W1 ⟨rfl, rfl⟩))
              exact ⟨rfl, rfl, (Below.refl _ _), rfl⟩
            · intro uF W hC' hU aF hF
              have hC : Below wc.heap.size wc W := hC'
              clear hC'
              have h162 : (Det (.bool false)) (uF 10) W := hU.1
              clear hU
              simp only [puts, Act.put, List.setIfInBounds_toArray, List.set_cons_zero, List.set_cons_succ] at hF
              generalize uF 10 = x162 at h162 hF
              obtain rfl : x162 = (.bool false) := h162
              subst hF
              go_wp2_with (fail)
              exact ⟨rfl, rfl, (Below.refl _ _), rfl⟩
            · intro uF W hC' hU aF hF
              have hC : Below wc.heap.size wc W := hC'
              clear hC'
              have h162 : (Det (.bool false)) (uF 10) W := hU.1
              clear hU
              simp only [puts, Act.put, List.setIfInBounds_toArray, List.set_cons_zero, List.set_cons_succ] at hF
              generalize uF 10 = x162 at h162 hF
              obtain rfl : x162 = (.bool false) := h162
              subst hF
              go_wp2_with (fail)
              exact ⟨rfl, rfl, (Below.refl _ _), rfl⟩
            · intro uF W hC' hU aF hF
              have hC : Below wc.heap.size wc W := hC'
              clear hC'
              have h166 : (Det (.pointer (some ⟨gm, 0, none⟩))) (uF 14) W := hU.1
              have h162 : (Det (.bool false)) (uF 10) W := hU.2.1
              clear hU
              simp only [puts, Act.put, List.setIfInBounds_toArray, List.set_cons_zero, List.set_cons_succ] at hF
              generalize uF 14 = x166 at h166 hF
              generalize uF 10 = x162 at h162 hF
              obtain rfl : x166 = (.pointer (some ⟨gm, 0, none⟩)) := h166
              obtain rfl : x162 = (.bool false) := h162
              subst hF
              go_wp2_with (fail)
              exact ⟨rfl, rfl, (Below.refl _ _), rfl⟩
            · intro uF W hC' hU aF hF
              have hC : Below wc.heap.size wc W := hC'
              clear hC'
              have h167 : (Det (.pointer (some ⟨gm, 0, none⟩))) (uF 15) W := hU.1
              have h162 : (Det (.bool false)) (uF 10) W := hU.2.1
              clear hU
              simp only [puts, Act.put, List.setIfInBounds_toArray, List.set_cons_zero, List.set_cons_succ] at hF
              generalize uF 15 = x167 at h167 hF
              generalize uF 10 = x162 at h162 hF
              obtain rfl : x167 = (.pointer (some ⟨gm, 0, none⟩)) := h167
              obtain rfl : x162 = (.bool false) := h162
              subst hF
              go_wp2_with (fail)
              exact ⟨rfl, rfl, (Below.refl _ _), rfl⟩
            · intro uF W hC' hU aF hF
              have hC : Below wc.heap.size wc W := hC'
              clear hC'
              have h168 : (Det (.pointer (some ⟨gm, 4, none⟩))) (uF 16) W := hU.1
              have h162 : (Det (.bool false)) (uF 10) W := hU.2.1
              clear hU
              simp only [puts, Act.put, List.setIfInBounds_toArray, List.set_cons_zero, List.set_cons_succ] at hF
              generalize uF 16 = x168 at h168 hF
              generalize uF 10 = x162 at h162 hF
              obtain rfl : x168 = (.pointer (some ⟨gm, 4, none⟩)) := h168
              obtain rfl : x162 = (.bool false) := h162
              subst hF
              have d1 : W.cell? ⟨gm, 4, none⟩ = some (.slice A83 N1 C83) := by rw [(HBMW.out.below hC HBMW.out.lt).cell]; rfl
              go_wp2_with (fail)
              exact ⟨rfl, rfl, (Below.refl _ _), rfl⟩
            · intro uF W hC' hU aF hF
              have hC : Below wc.heap.size wc W := hC'
              clear hC'
              have h169 : (Det (.slice A83 N1 C83)) (uF 17) W := hU.1
              have h162 : (Det (.bool false)) (uF 10) W := hU.2.1
              clear hU
              simp only [puts, Act.put, List.setIfInBounds_toArray, List.set_cons_zero, List.set_cons_succ] at hF
              generalize uF 17 = x169 at h169 hF
              generalize uF 10 = x162 at h162 hF
              obtain rfl : x169 = (.slice A83 N1 C83) := h169
              obtain rfl : x162 = (.bool false) := h162
              subst hF
              go_wp2_with (fail)
              exact ⟨rfl, rfl, (Below.refl _ _), rfl⟩
            · intro uF W hC' hU aF hF
              have hC : Below wc.heap.size wc W := hC'
              clear hC'
              have h165 : (Det (.pointer (some ⟨gm, 0, none⟩))) (uF 13) W := hU.1
              have h170 : (Det (.int .i64 (N1 : Int))) (uF 18) W := hU.2.1
              have h162 : (Det (.bool false)) (uF 10) W := hU.2.2.1
              clear hU
              simp only [puts, Act.put, List.setIfInBounds_toArray, List.set_cons_zero, List.set_cons_succ] at hF
              generalize uF 13 = x165 at h165 hF
              generalize uF 18 = x170 at h170 hF
              generalize uF 10 = x162 at h162 hF
              obtain rfl : x165 = (.pointer (some ⟨gm, 0, none⟩)) := h165
              obtain rfl : x170 = (.int .i64 (N1 : Int)) := h170
              obtain rfl : x162 = (.bool false) := h162
              subst hF
              go_wp2_with ((go_at_call 27; have hgg := greeted_r (HMDW.out.below hC) N1 (Nat.le_refl _); rw [HTK.out, HS1.out] at hgg; refine hgg.mono ?_; rintro e W1 ⟨rfl, hb⟩))
              exact ⟨rfl, rfl, hb, rfl⟩
            · intro uF W hC' hU aF hF
              have hC : Below wc.heap.size wc W := hC'
              clear hC'
              have h164 : (Det (.int .i64 (s1.gr : Int))) (uF 12) W := hU.1
              have h171 : (Det (.int .i64 (s1.gr : Int))) (uF 19) W := hU.2.1
              have h162 : (Det (.bool false)) (uF 10) W := hU.2.2.1
              clear hU
              simp only [puts, Act.put, List.setIfInBounds_toArray, List.set_cons_zero, List.set_cons_succ] at hF
              generalize uF 12 = x164 at h164 hF
              generalize uF 19 = x171 at h171 hF
              generalize uF 10 = x162 at h162 hF
              obtain rfl : x164 = (.int .i64 (s1.gr : Int)) := h164
              obtain rfl : x171 = (.int .i64 (s1.gr : Int)) := h171
              obtain rfl : x162 = (.bool false) := h162
              subst hF
              go_wp2_with (fail)
              exact ⟨rfl, rfl, (Below.refl _ _), rfl⟩
            · intro uF W hC' hU aF hF
              have hC : Below wc.heap.size wc W := hC'
              clear hC'
              have h162 : (Det (.bool false)) (uF 10) W := hU.1
              have h172 : (Det (.bool false)) (uF 20) W := hU.2.1
              clear hU
              simp only [puts, Act.put, List.setIfInBounds_toArray, List.set_cons_zero, List.set_cons_succ] at hF
              generalize uF 10 = x162 at h162 hF
              generalize uF 20 = x172 at h172 hF
              obtain rfl : x162 = (.bool false) := h162
              obtain rfl : x172 = (.bool false) := h172
              subst hF
              go_wp2_with (fail)
              exact ⟨rfl, rfl, (Below.refl _ _), rfl⟩
          intro uF WZ hC' hU aF hF
          have hCWZ : Below wc.heap.size wc WZ := hC'
          clear hC'
          have h173 : (Det (.bool false)) (uF 21) WZ := hU.2.2.2.2.2.2.2.2.2.2.2.2.2.2.2.2.2.2.2.2.2.1
          clear hU
          simp only [puts, Act.put, List.setIfInBounds_toArray, List.set_cons_zero, List.set_cons_succ] at hF
          generalize uF 0 = x152 at hF
          generalize uF 1 = x153 at hF
          generalize uF 2 = x154 at hF
          generalize uF 3 = x155 at hF
          generalize uF 4 = x156 at hF
          generalize uF 5 = x157 at hF
          generalize uF 6 = x158 at hF
          generalize uF 7 = x159 at hF
          generalize uF 8 = x160 at hF
          generalize uF 9 = x161 at hF
          generalize uF 10 = x162 at hF
          generalize uF 11 = x163 at hF
          generalize uF 12 = x164 at hF
          generalize uF 13 = x165 at hF
          generalize uF 14 = x166 at hF
          generalize uF 15 = x167 at hF
          generalize uF 16 = x168 at hF
          generalize uF 17 = x169 at hF
          generalize uF 18 = x170 at hF
          generalize uF 19 = x171 at hF
          generalize uF 20 = x172 at hF
          generalize uF 21 = x173 at h173 hF
          obtain rfl : x173 = (.bool false) := h173
          subst hF
          go_wp2_with fail
          have hb := hbc.trans (hCWZ.mono hbc.size)
          have hN := HN1.out
          have hbd := hbnd.out
          have hgr9 := HGR.out
          have hnx9 := HNX.out
          have hl1 := HLEN1.out
          subst hN
          exact ⟨⟨i + 1, s1, el, A83, C83, cs ++ [cv], by omega, by go_num, by omega, ⟨hbd.2.1, by omega⟩, HEL.out, ⟨hl1, HS1.out, Nat.le_trans hb2b hb.size⟩, HEB.out.below hb, B4B.out.below hb B4B.out.lt, BCB.out.below hb BCB.out.lt, HBMB.out.below hb HBMB.out.lt, HCMB.out.below hb, HWB.out.trans (hb.mono HWB.out.size)⟩, by simp [intOf]; omega⟩
    · obtain rfl : i = n := by omega
      have hil : ¬ (i : Int) < (i : Int) := by omega
      have HW := Lib.hid hw
      clear hse hw hel hnx hgr hb4r hbc
      go_wp2_with fail
      go_ret
      exact ⟨rfl, HW.out⟩
end Go.Proofs.Ytiadfbcdopfibaa.loginPlays

