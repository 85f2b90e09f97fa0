/-
  cdb.Blocks: the func value that it hands back (printed by wip/gen_cblk.py).
-/
import Derived.Test.YtjjpifppdjpcnaaBlocks
import Derived.Test.YtjjpifppdjpcnaaCdbLaw
namespace Go.Proofs.Ytjjpifppdjpcnaa
open Go.RowKit Go.Shelf
set_option linter.unusedVariables false
set_option linter.unusedSimpArgs false
set_option maxRecDepth 100000

theorem RelP.parts {n : Nat} {bss : List (List UInt8)} {v : Value} {w : World} (h : RelP n bss v w) :
    ∃ A c ps, v = .slice A n c ∧ Sl w w.heap.size 1 A n c (ps.map Part.v) ∧ (∀ p ∈ ps, SlB w w.heap.size p.A p.n p.c p.bs) ∧ joined ps = bss.flatten ∧ total ps = bss.flatten.length := by
  obtain ⟨A, c, e, ls, hl, hs, hr⟩ := h
  have H : ∀ (ls : List (Option Addr × Nat × Nat)) (bss : List (List UInt8)), ls.length = bss.length → (∀ (i : Nat) (l : Option Addr × Nat × Nat) (bs : List UInt8), ls[i]? = some l → bss[i]? = some bs → SlB w w.heap.size l.1 l.2.1 l.2.2 bs) →
      ∃ ps : List Part, ps.map Part.v = ls.map (fun l => .slice l.1 l.2.1 l.2.2) ∧ (∀ p ∈ ps, SlB w w.heap.size p.A p.n p.c p.bs) ∧ joined ps = bss.flatten ∧ total ps = bss.flatten.length := by
    intro ls
    induction ls with
    | nil =>
      intro bss hl _
      cases bss with
      | nil => exact ⟨[], rfl, (fun p hp => (by cases hp)), rfl, rfl⟩
      | cons => simp at hl
    | cons l ls ih =>
      intro bss hl hr
      cases bss with
      | nil => simp at hl
      | cons b bss =>
        obtain ⟨ps, h1, h2, h3, h4⟩ := ih bss (by simpa using hl) fun i l' b' a1 a2 => hr (i + 1) l' b' (by simpa using a1) (by simpa using a2)
        have h0 := hr 0 l b rfl rfl
        refine ⟨⟨l.1, l.2.1, l.2.2, b⟩ :: ps, ?_, ?_, ?_, ?_⟩
        · rw [List.map_cons, List.map_cons, h1]; rfl
        · intro p hp
          rcases List.mem_cons.1 hp with rfl | hp
          · exact h0
          · exact h2 p hp
        · simp only [joined, List.map_cons, List.flatten_cons] at h3 ⊢
          rw [h3]
        · simp only [total, List.map_cons, List.sum_cons, List.flatten_cons, List.length_append] at h4 ⊢
          rw [h4, h0.len]
  obtain ⟨ps, h1, h2, h3, h4⟩ := H ls bss hl hr
  exact ⟨A, c, ps, e, by rw [h1]; exact hs, h2, h3, h4⟩
theorem concat_p {w : World} {n : Nat} {v : Value} {bss : List (List UInt8)} (h : RelP n bss v w) (fl : List UInt8) (hfl : bss.flatten = fl) (N : Nat) (hN : fl.length = N) (ht : N ≤ 140737488353000) :
    Calls Try.prog 60 #[v] w fun e w' => ∃ A' c', e = .returned (.slice A' N c') ∧ OwB w' w.heap.size A' N c' fl ∧ Below w.heap.size w w' := by
  subst hfl
  obtain ⟨A9, c9, ps, e, hs, hp, hj, ht9⟩ := h.parts
  rw [e]
  rw [hN] at ht9
  refine (concat_c ps hs (Nat.le_refl _) hp (by rw [ht9]; exact ht)).mono ?_
  rw [ht9, hj]
  exact fun e w' h => h
/-- A pointer to a block that holds these cells. -/
def RelW (base base2 : Nat) (T : TypeId) (cs : Array Value) : Value → World → Prop := fun v w => ∃ g, v = .pointer (some ⟨g, 0, none⟩) ∧ base ≤ g ∧ base2 ≤ g ∧ Blk w g T cs
theorem RelW.later {base base2 : Nat} {T : TypeId} {cs : Array Value} (v : Value) (w w' : World) (hb : Below w.heap.size w w') (h : RelW base base2 T cs v w) : RelW base base2 T cs v w' :=
  let ⟨g, e, hg, hg2, h⟩ := h
  ⟨g, e, hg, hg2, h.below hb h.lt⟩
/-- A row of bytes does not lie in a block of another type. -/
theorem not_cell {w : World} {base g n c : Nat} {A : Option Addr} {bs : List UInt8} {cs : Array Value} (h : OwB w base A n c bs) (hb : Blk w g 22 cs) : wrote A c ≠ some g := by
  intro e
  rw [wrote] at e
  split at e
  · cases e
  · rename_i hc
    obtain ⟨g', cur, rfl, _, hk, _⟩ := OwB.open_ h (by omega)
    simp only [Option.map_some, Option.some.injEq] at e
    subst e
    rw [Blk] at hb hk
    rw [hk] at hb
    simp at hb

/-- A row does not lie in this block. -/
def NotCell (A : Option Addr) (c : Nat) (g : Nat) : Prop := wrote A c ≠ some g

set_option maxHeartbeats 4000000 in
theorem blocks_no_ge {w : World} {B : Nat} {A : Option Addr} {m c : Nat} {ds : List UInt8} (kind unit block many op who key new ty : Int) (st : Bool) (hd : SlB w B A m c ds) (hB : B ≤ w.heap.size) (hm : m ≤ 1000000) (M : Nat) (hM : M = 0) (hmv : (kind == 1 || kind == 2) = false) (z N : Nat) (hzz : z = 128 * M - m) (hN : N = m + z) (hge : 0 ≤ (M : Int) * 128 - (m : Int)) :
    Calls Try.prog 39 #[.agg #[.int .i64 kind, .int .i64 unit, .int .i64 block, .int .i64 many, .slice A m c, .int .i64 op, .int .i64 who, .int .i64 key, .int .i64 new, .int .i64 ty, .bool st]] w fun e w' => ∃ g4 A' c', e = .returned (.func (.func 61) #[] #[.pointer (some ⟨w.heap.size + 1, 0, none⟩), .pointer (some ⟨w.heap.size, 0, none⟩), .pointer (some ⟨g4, 0, none⟩)]) ∧ w.heap.size + 2 ≤ g4 ∧
      Blk w' w.heap.size 56 #[.int .i64 kind, .int .i64 unit, .int .i64 block, .int .i64 many, .slice A m c, .int .i64 op, .int .i64 who, .int .i64 key, .int .i64 new, .int .i64 ty, .bool st] ∧ Blk w' (w.heap.size + 1) 3 #[.int .i64 (M : Int)] ∧ Blk w' g4 22 #[.slice A' N c'] ∧ OwB w' (w.heap.size + 2) A' N c' (ds ++ List.replicate z 0) ∧ NotCell A' c' g4 ∧ Below w.heap.size w w' := by
  have hlen := hd.len
  have hmx := hd.mx
  obtain ⟨v, hv⟩ : ∃ v, v = (w.alloc (.cells #[.int .i64 kind, .int .i64 unit, .int .i64 block, .int .i64 many, .slice A m c, .int .i64 op, .int .i64 who, .int .i64 key, .int .i64 new, .int .i64 ty, .bool st] 56)).alloc (.cells #[.int .i64 0] 3) := ⟨_, rfl⟩
  have b1 : Blk v w.heap.size 56 #[.int .i64 kind, .int .i64 unit, .int .i64 block, .int .i64 many, .slice A m c, .int .i64 op, .int .i64 who, .int .i64 key, .int .i64 new, .int .i64 ty, .bool st] := by rw [hv]; exact (Blk.new w _ _).alloc _
  have b3 : Blk v (w.heap.size + 1) 3 #[.int .i64 0] := by
    have := Blk.new (w.alloc (.cells #[.int .i64 kind, .int .i64 unit, .int .i64 block, .int .i64 many, .slice A m c, .int .i64 op, .int .i64 who, .int .i64 key, .int .i64 new, .int .i64 ty, .bool st] 56)) 3 #[.int .i64 0]
    rw [World.size_alloc] at this
    rw [hv]; exact this
  have hbv : Below w.heap.size w v := by rw [hv]; exact ((Below.refl _ _).alloc (Nat.le_refl _) _).alloc (by simp) _
  have hz := hbv.size
  have hzv : w.heap.size + 2 ≤ v.heap.size := by have := b3.lt; omega
  have HV := Lib.hid hv
  have HD := Lib.hid hd
  clear hv hd
  go_enter Try.func39, Try.ntmps39
  go_wp2_with (first
    | ((with_reducible show wpList _ _ _ (Oper.mk (some 5) (Op.load 56 _) _ _ _ _ :: _) _ _); rw [← HV.out]; refine wpList_load_whole rfl 56 (.tmp 1) rfl w.heap.size rfl #[.int .i64 kind, .int .i64 unit, .int .i64 block, .int .i64 many, .slice A m c, .int .i64 op, .int .i64 who, .int .i64 key, .int .i64 new, .int .i64 ty, .bool st] aggCm rfl _ b1 ?_)
    | (go_at_call 58; refine (moves_c kind unit block many op who key new ty st v).mono ?_; rintro e w2 ⟨rfl, hb2⟩; rw [hmv]; have hw2 := hbv.trans (hb2.mono hz); have hz2 := hw2.size; have b12 := b1.below hb2 b1.lt; have b32 := b3.below hb2 b3.lt; have hz02 := hb2.size))
  obtain ⟨V5, hV5⟩ : ∃ V5, V5 = w2 := ⟨_, rfl⟩
  rw [← hV5]
  have b15 : Blk V5 w.heap.size 56 #[.int .i64 kind, .int .i64 unit, .int .i64 block, .int .i64 many, .slice A m c, .int .i64 op, .int .i64 who, .int .i64 key, .int .i64 new, .int .i64 ty, .bool st] := by rw [hV5]; exact b12
  have b35 : Blk V5 (w.heap.size + 1) 3 #[.int .i64 (M : Int)] := by rw [hV5, hM]; exact b32
  have hw5 : Below w.heap.size w V5 := by rw [hV5]; exact hw2
  have hz05 : w.heap.size + 2 ≤ V5.heap.size := by rw [hV5]; omega
  have hz5 := hw5.size
  have hMb : M ≤ 65536 := by omega
  have HM := Lib.hid hM
  have HB1 := Lib.hid b15
  have HB3 := Lib.hid b35
  have HZ := Lib.hid hzz
  have HN := Lib.hid hN
  clear hV5 b15 b35 hzz hN hM
  refine Code.wp_mono (Q := Exit.then (fun a' w' => ∃ g4 A' c', (∃ y5 y6 y7 y8 y9 y10 y11 y12 y13 y14 y15 y16 y17 y18 y19 y20 y21 y22 y23 y24 y25 : Value, a' = { tmps := #[.agg #[.int .i64 kind, .int .i64 unit, .int .i64 block, .int .i64 many, .slice A m c, .int .i64 op, .int .i64 who, .int .i64 key, .int .i64 new, .int .i64 ty, .bool st], .pointer (some ⟨w.heap.size, 0, none⟩), .nilFunc, .pointer (some ⟨w.heap.size + 1, 0, none⟩), .pointer (some ⟨g4, 0, none⟩), y5, y6, y7, y8, y9, y10, y11, y12, y13, y14, y15, y16, y17, y18, y19, y20, y21, y22, y23, y24, y25, undef], defers := [] }) ∧ w.heap.size + 2 ≤ g4 ∧ Blk w' g4 22 #[.slice A' N c'] ∧ OwB w' (w.heap.size + 2) A' N c' (ds ++ List.replicate z 0) ∧ NotCell A' c' g4 ∧ Below V5.heap.size V5 w') (fun _ _ _ => False)) ?_ ?_
  rotate_left
  · refine (wpIn_wide (n := 4)).1 ?_
    refine wpIn_region_rel free_wide rfl 13 (fun W W' => Below W.heap.size W W') (fun W => Below V5.heap.size V5 W)
      [Det (.pointer (some ⟨w.heap.size, 4, none⟩)), RelB m ds, Det (.int .i64 (M : Int)), Det (.int .i64 ((M : Int) * 128)), Det (.pointer (some ⟨w.heap.size, 4, none⟩)), RelB m ds, Det (.int .i64 (m : Int)), Det (.int .i64 ((M : Int) * 128 - (m : Int))), Det (.int .i64 ((M : Int) * 128 - (m : Int))), RelB z (List.replicate z 0), RelP 2 [ds, List.replicate z 0], RelO (w.heap.size + 2) N (ds ++ List.replicate z 0), RelW (w.heap.size + 2) V5.heap.size 22 #[.slice none 0 0], Any]
      [[], [(0, some 14)], [], [(2, some 16)], [], [(4, some 18)], [(5, some 19)], [(3, some 17), (6, some 20)], [(7, some 21)], [(8, some 22)], [(1, some 15), (9, some 23)], [(10, some 24)], [], [(12, some 4), (11, some 25)]]
      [[], [0], [], [2], [], [4], [4, 5], [2, 3, 4, 5, 6], [2, 3, 4, 5, 6, 7], [2, 3, 4, 5, 6, 7, 8], [0, 1, 2, 3, 4, 5, 6, 7, 8, 9], [0, 1, 2, 3, 4, 5, 6, 7, 8, 9, 10], [], [0, 1, 2, 3, 4, 5, 6, 7, 8, 9, 10, 11, 12]]
      [(0, some 14), (1, some 15), (2, some 16), (3, some 17), (4, some 18), (5, some 19), (6, some 20), (7, some 21), (8, some 22), (9, some 23), (10, some 24), (11, some 25), (12, some 4), (13, none)] (by kernel_rfl) (by kernel_rfl) (by kernel_rfl) (fun W W' h1 h2 => h1.trans (h2.mono h1.size)) ((Below.refl _ _).drew) ?_ ?_ ?_
    · exact (AllMono.cons Det.later (AllMono.cons RelB.later (AllMono.cons Det.later (AllMono.cons Det.later (AllMono.cons Det.later (AllMono.cons RelB.later (AllMono.cons Det.later (AllMono.cons Det.later (AllMono.cons Det.later (AllMono.cons RelB.later (AllMono.cons RelP.later (AllMono.cons RelO.later (AllMono.cons RelW.later (AllMono.cons Any.later AllMono.nil))))))))))))))
    · refine AllOb.cons ?_ (AllOb.cons ?_ (AllOb.cons ?_ (AllOb.cons ?_ (AllOb.cons ?_ (AllOb.cons ?_ (AllOb.cons ?_ (AllOb.cons ?_ (AllOb.cons ?_ (AllOb.cons ?_ (AllOb.cons ?_ (AllOb.cons ?_ (AllOb.cons ?_ (AllOb.nil)))))))))))))
      · intro uF W hC' hU aF hF
        have hC : Below V5.heap.size V5 W := hC'
        clear hC'
        simp only [puts] at hF
        subst hF
        go_wp2_with (fail)
        exact ⟨rfl, rfl, (Below.refl _ _), rfl⟩
      · intro uF W hC' hU aF hF
        have hC : Below V5.heap.size V5 W := hC'
        clear hC'
        have h14 : (Det (.pointer (some ⟨w.heap.size, 4, none⟩))) (uF 0) W := hU.1
        clear hU
        simp only [puts, Act.put, List.setIfInBounds_toArray, List.set_cons_zero, List.set_cons_succ] at hF
        generalize uF 0 = x14 at h14 hF
        obtain rfl : x14 = (.pointer (some ⟨w.heap.size, 4, none⟩)) := h14
        subst hF
        have d1 : W.cell? ⟨w.heap.size, 4, none⟩ = some (.slice A m c) := by rw [(HB1.out.below hC HB1.out.lt).cell]; rfl
        go_wp2_with (fail)
        exact ⟨rfl, rfl, (Below.refl _ _), ⟨_, _, rfl, (HD.out.below ((hw5.trans (hC.mono hz5)).mono hB)).more (Nat.le_trans hB (Nat.le_trans hz5 hC.size))⟩⟩
      · intro uF W hC' hU aF hF
        have hC : Below V5.heap.size V5 W := hC'
        clear hC'
        simp only [puts] at hF
        subst hF
        have d1 : W.cell? ⟨w.heap.size + 1, 0, none⟩ = some (.int .i64 (M : Int)) := by rw [(HB3.out.below hC HB3.out.lt).cell]; rfl
        go_wp2_with (fail)
        exact ⟨rfl, rfl, (Below.refl _ _), rfl⟩
      · intro uF W hC' hU aF hF
        have hC : Below V5.heap.size V5 W := hC'
        clear hC'
        have h16 : (Det (.int .i64 (M : Int))) (uF 2) W := hU.1
        clear hU
        simp only [puts, Act.put, List.setIfInBounds_toArray, List.set_cons_zero, List.set_cons_succ] at hF
        generalize uF 2 = x16 at h16 hF
        obtain rfl : x16 = (.int .i64 (M : Int)) := h16
        subst hF
        go_wp2_with (fail)
        exact ⟨rfl, rfl, (Below.refl _ _), rfl⟩
      · intro uF W hC' hU aF hF
        have hC : Below V5.heap.size V5 W := hC'
        clear hC'
        simp only [puts] at hF
        subst hF
        go_wp2_with (fail)
        exact ⟨rfl, rfl, (Below.refl _ _), rfl⟩
      · intro uF W hC' hU aF hF
        have hC : Below V5.heap.size V5 W := hC'
        clear hC'
        have h18 : (Det (.pointer (some ⟨w.heap.size, 4, none⟩))) (uF 4) W := hU.1
        clear hU
        simp only [puts, Act.put, List.setIfInBounds_toArray, List.set_cons_zero, List.set_cons_succ] at hF
        generalize uF 4 = x18 at h18 hF
        obtain rfl : x18 = (.pointer (some ⟨w.heap.size, 4, none⟩)) := h18
        subst hF
        have d1 : W.cell? ⟨w.heap.size, 4, none⟩ = some (.slice A m c) := by rw [(HB1.out.below hC HB1.out.lt).cell]; rfl
        go_wp2_with (fail)
        exact ⟨rfl, rfl, (Below.refl _ _), ⟨_, _, rfl, (HD.out.below ((hw5.trans (hC.mono hz5)).mono hB)).more (Nat.le_trans hB (Nat.le_trans hz5 hC.size))⟩⟩
      · intro uF W hC' hU aF hF
        have hC : Below V5.heap.size V5 W := hC'
        clear hC'
        have h19 : (RelB m ds) (uF 5) W := hU.1
        clear hU
        simp only [puts, Act.put, List.setIfInBounds_toArray, List.set_cons_zero, List.set_cons_succ] at hF
        generalize uF 5 = x19 at h19 hF
        obtain ⟨A19, c19, rfl, s19⟩ := h19
        subst hF
        go_wp2_with (fail)
        exact ⟨rfl, rfl, (Below.refl _ _), rfl⟩
      · intro uF W hC' hU aF hF
        have hC : Below V5.heap.size V5 W := hC'
        clear hC'
        have h17 : (Det (.int .i64 ((M : Int) * 128))) (uF 3) W := hU.1
        have h20 : (Det (.int .i64 (m : Int))) (uF 6) W := hU.2.1
        clear hU
        simp only [puts, Act.put, List.setIfInBounds_toArray, List.set_cons_zero, List.set_cons_succ] at hF
        generalize uF 3 = x17 at h17 hF
        generalize uF 6 = x20 at h20 hF
        obtain rfl : x17 = (.int .i64 ((M : Int) * 128)) := h17
        obtain rfl : x20 = (.int .i64 (m : Int)) := h20
        subst hF
        go_wp2_with (fail)
        exact ⟨rfl, rfl, (Below.refl _ _), rfl⟩
      · intro uF W hC' hU aF hF
        have hC : Below V5.heap.size V5 W := hC'
        clear hC'
        have h21 : (Det (.int .i64 ((M : Int) * 128 - (m : Int)))) (uF 7) W := hU.1
        clear hU
        simp only [puts, Act.put, List.setIfInBounds_toArray, List.set_cons_zero, List.set_cons_succ] at hF
        generalize uF 7 = x21 at h21 hF
        obtain rfl : x21 = (.int .i64 ((M : Int) * 128 - (m : Int))) := h21
        subst hF
        go_wp2_with (fail)
        exact ⟨rfl, rfl, (Below.refl _ _), rfl⟩
      · intro uF W hC' hU aF hF
        have hC : Below V5.heap.size V5 W := hC'
        clear hC'
        have h22 : (Det (.int .i64 ((M : Int) * 128 - (m : Int)))) (uF 8) W := hU.1
        clear hU
        simp only [puts, Act.put, List.setIfInBounds_toArray, List.set_cons_zero, List.set_cons_succ] at hF
        generalize uF 8 = x22 at h22 hF
        obtain rfl : x22 = (.int .i64 ((M : Int) * 128 - (m : Int))) := h22
        subst hF
        have hmk := run_make8 z z ((M : Int) * 128 - (m : Int)) ((M : Int) * 128 - (m : Int)) (by have := HZ.out; omega) (by have := HZ.out; omega) (Nat.le_refl _) (by have := HZ.out; omega) W
        go_wp2_with (fail)
        exact ⟨rfl, rfl, (below_alloc _ _), RelB.new _ (List.replicate z 0) z (by simp) (by have := HZ.out; simp [maxLen]; omega) (zeros8_list z)⟩
      · intro uF W hC' hU aF hF
        have hC : Below V5.heap.size V5 W := hC'
        clear hC'
        have h15 : (RelB m ds) (uF 1) W := hU.1
        have h23 : (RelB z (List.replicate z 0)) (uF 9) W := hU.2.1
        clear hU
        simp only [puts, Act.put, List.setIfInBounds_toArray, List.set_cons_zero, List.set_cons_succ] at hF
        generalize uF 1 = x15 at h15 hF
        generalize uF 9 = x23 at h23 hF
        obtain ⟨A15, c15, rfl, s15⟩ := h15
        obtain ⟨A23, c23, rfl, s23⟩ := h23
        subst hF
        go_wp2_with (fail)
        exact ⟨rfl, rfl, (below_alloc _ _), RelP.two s15 s23⟩
      · intro uF W hC' hU aF hF
        have hC : Below V5.heap.size V5 W := hC'
        clear hC'
        have h24 : (RelP 2 [ds, List.replicate z 0]) (uF 10) W := hU.1
        clear hU
        simp only [puts, Act.put, List.setIfInBounds_toArray, List.set_cons_zero, List.set_cons_succ] at hF
        generalize uF 10 = x24 at h24 hF
        subst hF
        go_wp2_with ((go_at_call 60; refine (concat_p h24 (ds ++ List.replicate z 0) (by simp) N (by have := HN.out; simp; omega) (by have := HN.out; have := HZ.out; omega)).mono ?_; rintro e W1 ⟨A1, c1, rfl, h1, hb⟩))
        exact ⟨rfl, rfl, hb, ⟨_, _, rfl, Row.base_le h1 (Nat.le_trans hz05 hC.size)⟩⟩
      · intro uF W hC' hU aF hF
        have hC : Below V5.heap.size V5 W := hC'
        clear hC'
        simp only [puts] at hF
        subst hF
        go_wp2_with (fail)
        exact ⟨rfl, rfl, (below_alloc _ _), ⟨_, rfl, Nat.le_trans hz05 hC.size, hC.size, Blk.new _ _ _⟩⟩
    intro uF W5 hC' hU aF hF
    have hCW5 : Below V5.heap.size V5 W5 := hC'
    clear hC'
    have h25 : (RelO (w.heap.size + 2) N (ds ++ List.replicate z 0)) (uF 11) W5 := hU.2.2.2.2.2.2.2.2.2.2.2.1
    have h4 : (RelW (w.heap.size + 2) V5.heap.size 22 #[.slice none 0 0]) (uF 12) W5 := hU.2.2.2.2.2.2.2.2.2.2.2.2.1
    clear hU
    simp only [List.take_succ_cons, List.take_zero, puts, Act.put, List.setIfInBounds_toArray, List.set_cons_zero, List.set_cons_succ] at hF
    generalize uF 0 = x14 at hF
    generalize uF 1 = x15 at hF
    generalize uF 2 = x16 at hF
    generalize uF 3 = x17 at hF
    generalize uF 4 = x18 at hF
    generalize uF 5 = x19 at hF
    generalize uF 6 = x20 at hF
    generalize uF 7 = x21 at hF
    generalize uF 8 = x22 at hF
    generalize uF 9 = x23 at hF
    generalize uF 10 = x24 at hF
    generalize uF 11 = x25 at h25 hF
    generalize uF 12 = x4 at h4 hF
    obtain ⟨A25, c25, rfl, s25⟩ := h25
    obtain ⟨g4, rfl, z4, y4, b4⟩ := h4
    subst hF
    simp only [List.drop_succ_cons, List.drop_zero]
    have k4 : W5.cell? ⟨g4, 0, none⟩ = some (.slice none 0 0) := by rw [b4.cell]; rfl
    have f4 := b4.frozen 0
    have hne : wrote A25 c25 ≠ some g4 := not_cell s25 b4
    have e4 : Blk (W5.setCell ⟨g4, 0, none⟩ (.slice A25 N c25)) g4 22 #[.slice A25 N c25] := by simpa using b4.set_ 0 (.slice A25 N c25)
    have e5 : OwB (W5.setCell ⟨g4, 0, none⟩ (.slice A25 N c25)) (w.heap.size + 2) A25 N c25 (ds ++ List.replicate z 0) := Row.keepRow s25 (grownBy_setCell _ g4 0 _) (.inr hne)
    have e6 : Below V5.heap.size V5 (W5.setCell ⟨g4, 0, none⟩ (.slice A25 N c25)) := hCW5.setCell (p := ⟨g4, 0, none⟩) (by show V5.heap.size ≤ g4; exact y4) _
    refine wpListIn_of free_wide (fun ⟨_, _, h⟩ => h) rfl ?_
    go_wp2_with fail
    exact ⟨g4, A25, c25, ⟨_, _, _, _, _, _, _, _, _, _, _, _, _, _, _, _, _, _, _, _, _, rfl⟩, z4, e4, e5, hne, e6⟩
  rintro e a' w6 h
  cases e with
  | normal =>
    obtain ⟨g4, A25, c25, ⟨y5, y6, y7, y8, y9, y10, y11, y12, y13, y14, y15, y16, y17, y18, y19, y20, y21, y22, y23, y24, y25, rfl⟩, z4, e4, e5, hne, e6⟩ := h
    have b16 := HB1.out.below e6 HB1.out.lt
    have b36 := HB3.out.below e6 HB3.out.lt
    have hw6 := hw5.trans (e6.mono hz5)
    go_wp2_with fail
    go_ret
    exact ⟨g4, A25, c25, rfl, z4, b16, b36, e4, e5, hne, hw6⟩
  | _ => exact h.elim

set_option maxHeartbeats 4000000 in
theorem blocks_no_lt {w : World} {B : Nat} {A : Option Addr} {m c : Nat} {ds : List UInt8} (kind unit block many op who key new ty : Int) (st : Bool) (hd : SlB w B A m c ds) (hB : B ≤ w.heap.size) (hm : m ≤ 1000000) (M : Nat) (hM : M = 0) (hmv : (kind == 1 || kind == 2) = false) (z N : Nat) (hzz : z = 128 * M - m) (hN : N = m + z) (hge : ¬ 0 ≤ (M : Int) * 128 - (m : Int)) :
    Calls Try.prog 39 #[.agg #[.int .i64 kind, .int .i64 unit, .int .i64 block, .int .i64 many, .slice A m c, .int .i64 op, .int .i64 who, .int .i64 key, .int .i64 new, .int .i64 ty, .bool st]] w fun e w' => ∃ g4 A' c', e = .returned (.func (.func 61) #[] #[.pointer (some ⟨w.heap.size + 1, 0, none⟩), .pointer (some ⟨w.heap.size, 0, none⟩), .pointer (some ⟨g4, 0, none⟩)]) ∧ w.heap.size + 2 ≤ g4 ∧
      Blk w' w.heap.size 56 #[.int .i64 kind, .int .i64 unit, .int .i64 block, .int .i64 many, .slice A m c, .int .i64 op, .int .i64 who, .int .i64 key, .int .i64 new, .int .i64 ty, .bool st] ∧ Blk w' (w.heap.size + 1) 3 #[.int .i64 (M : Int)] ∧ Blk w' g4 22 #[.slice A' N c'] ∧ OwB w' (w.heap.size + 2) A' N c' (ds ++ List.replicate z 0) ∧ NotCell A' c' g4 ∧ Below w.heap.size w w' := by
  have hlen := hd.len
  have hmx := hd.mx
  obtain ⟨v, hv⟩ : ∃ v, v = (w.alloc (.cells #[.int .i64 kind, .int .i64 unit, .int .i64 block, .int .i64 many, .slice A m c, .int .i64 op, .int .i64 who, .int .i64 key, .int .i64 new, .int .i64 ty, .bool st] 56)).alloc (.cells #[.int .i64 0] 3) := ⟨_, rfl⟩
  have b1 : Blk v w.heap.size 56 #[.int .i64 kind, .int .i64 unit, .int .i64 block, .int .i64 many, .slice A m c, .int .i64 op, .int .i64 who, .int .i64 key, .int .i64 new, .int .i64 ty, .bool st] := by rw [hv]; exact (Blk.new w _ _).alloc _
  have b3 : Blk v (w.heap.size + 1) 3 #[.int .i64 0] := by
    have := Blk.new (w.alloc (.cells #[.int .i64 kind, .int .i64 unit, .int .i64 block, .int .i64 many, .slice A m c, .int .i64 op, .int .i64 who, .int .i64 key, .int .i64 new, .int .i64 ty, .bool st] 56)) 3 #[.int .i64 0]
    rw [World.size_alloc] at this
    rw [hv]; exact this
  have hbv : Below w.heap.size w v := by rw [hv]; exact ((Below.refl _ _).alloc (Nat.le_refl _) _).alloc (by simp) _
  have hz := hbv.size
  have hzv : w.heap.size + 2 ≤ v.heap.size := by have := b3.lt; omega
  have HV := Lib.hid hv
  have HD := Lib.hid hd
  clear hv hd
  go_enter Try.func39, Try.ntmps39
  go_wp2_with (first
    | ((with_reducible show wpList _ _ _ (Oper.mk (some 5) (Op.load 56 _) _ _ _ _ :: _) _ _); rw [← HV.out]; refine wpList_load_whole rfl 56 (.tmp 1) rfl w.heap.size rfl #[.int .i64 kind, .int .i64 unit, .int .i64 block, .int .i64 many, .slice A m c, .int .i64 op, .int .i64 who, .int .i64 key, .int .i64 new, .int .i64 ty, .bool st] aggCm rfl _ b1 ?_)
    | (go_at_call 58; refine (moves_c kind unit block many op who key new ty st v).mono ?_; rintro e w2 ⟨rfl, hb2⟩; rw [hmv]; have hw2 := hbv.trans (hb2.mono hz); have hz2 := hw2.size; have b12 := b1.below hb2 b1.lt; have b32 := b3.below hb2 b3.lt; have hz02 := hb2.size))
  obtain ⟨V5, hV5⟩ : ∃ V5, V5 = w2 := ⟨_, rfl⟩
  rw [← hV5]
  have b15 : Blk V5 w.heap.size 56 #[.int .i64 kind, .int .i64 unit, .int .i64 block, .int .i64 many, .slice A m c, .int .i64 op, .int .i64 who, .int .i64 key, .int .i64 new, .int .i64 ty, .bool st] := by rw [hV5]; exact b12
  have b35 : Blk V5 (w.heap.size + 1) 3 #[.int .i64 (M : Int)] := by rw [hV5, hM]; exact b32
  have hw5 : Below w.heap.size w V5 := by rw [hV5]; exact hw2
  have hz05 : w.heap.size + 2 ≤ V5.heap.size := by rw [hV5]; omega
  have hz5 := hw5.size
  have hMb : M ≤ 65536 := by omega
  have HM := Lib.hid hM
  have HB1 := Lib.hid b15
  have HB3 := Lib.hid b35
  have HZ := Lib.hid hzz
  have HN := Lib.hid hN
  clear hV5 b15 b35 hzz hN hM
  refine Code.wp_mono (Q := Exit.then (fun a' w' => ∃ g4 A' c', (∃ y5 y6 y7 y8 y9 y10 y11 y12 y13 y14 y15 y16 y17 y18 y19 y20 y21 y22 y23 y24 y25 : Value, a' = { tmps := #[.agg #[.int .i64 kind, .int .i64 unit, .int .i64 block, .int .i64 many, .slice A m c, .int .i64 op, .int .i64 who, .int .i64 key, .int .i64 new, .int .i64 ty, .bool st], .pointer (some ⟨w.heap.size, 0, none⟩), .nilFunc, .pointer (some ⟨w.heap.size + 1, 0, none⟩), .pointer (some ⟨g4, 0, none⟩), y5, y6, y7, y8, y9, y10, y11, y12, y13, y14, y15, y16, y17, y18, y19, y20, y21, y22, y23, y24, y25, undef], defers := [] }) ∧ w.heap.size + 2 ≤ g4 ∧ Blk w' g4 22 #[.slice A' N c'] ∧ OwB w' (w.heap.size + 2) A' N c' (ds ++ List.replicate z 0) ∧ NotCell A' c' g4 ∧ Below V5.heap.size V5 w') (fun _ _ _ => False)) ?_ ?_
  rotate_left
  · refine (wpIn_wide (n := 4)).1 ?_
    refine wpIn_region_rel free_wide rfl 13 (fun W W' => Below W.heap.size W W') (fun W => Below V5.heap.size V5 W)
      [Det (.pointer (some ⟨w.heap.size, 4, none⟩)), RelB m ds, Det (.int .i64 (M : Int)), Det (.int .i64 ((M : Int) * 128)), Det (.pointer (some ⟨w.heap.size, 4, none⟩)), RelB m ds, Det (.int .i64 (m : Int)), Det (.int .i64 ((M : Int) * 128 - (m : Int))), Det (.int .i64 (0)), RelB z (List.replicate z 0), RelP 2 [ds, List.replicate z 0], RelO (w.heap.size + 2) N (ds ++ List.replicate z 0), RelW (w.heap.size + 2) V5.heap.size 22 #[.slice none 0 0], Any]
      [[], [(0, some 14)], [], [(2, some 16)], [], [(4, some 18)], [(5, some 19)], [(3, some 17), (6, some 20)], [(7, some 21)], [(8, some 22)], [(1, some 15), (9, some 23)], [(10, some 24)], [], [(12, some 4), (11, some 25)]]
      [[], [0], [], [2], [], [4], [4, 5], [2, 3, 4, 5, 6], [2, 3, 4, 5, 6, 7], [2, 3, 4, 5, 6, 7, 8], [0, 1, 2, 3, 4, 5, 6, 7, 8, 9], [0, 1, 2, 3, 4, 5, 6, 7, 8, 9, 10], [], [0, 1, 2, 3, 4, 5, 6, 7, 8, 9, 10, 11, 12]]
      [(0, some 14), (1, some 15), (2, some 16), (3, some 17), (4, some 18), (5, some 19), (6, some 20), (7, some 21), (8, some 22), (9, some 23), (10, some 24), (11, some 25), (12, some 4), (13, none)] (by kernel_rfl) (by kernel_rfl) (by kernel_rfl) (fun W W' h1 h2 => h1.trans (h2.mono h1.size)) ((Below.refl _ _).drew) ?_ ?_ ?_
    · exact (AllMono.cons Det.later (AllMono.cons RelB.later (AllMono.cons Det.later (AllMono.cons Det.later (AllMono.cons Det.later (AllMono.cons RelB.later (AllMono.cons Det.later (AllMono.cons Det.later (AllMono.cons Det.later (AllMono.cons RelB.later (AllMono.cons RelP.later (AllMono.cons RelO.later (AllMono.cons RelW.later (AllMono.cons Any.later AllMono.nil))))))))))))))
    · refine AllOb.cons ?_ (AllOb.cons ?_ (AllOb.cons ?_ (AllOb.cons ?_ (AllOb.cons ?_ (AllOb.cons ?_ (AllOb.cons ?_ (AllOb.cons ?_ (AllOb.cons ?_ (AllOb.cons ?_ (AllOb.cons ?_ (AllOb.cons ?_ (AllOb.cons ?_ (AllOb.nil)))))))))))))
      · intro uF W hC' hU aF hF
        have hC : Below V5.heap.size V5 W := hC'
        clear hC'
        simp only [puts] at hF
        subst hF
        go_wp2_with (fail)
        exact ⟨rfl, rfl, (Below.refl _ _), rfl⟩
      · intro uF W hC' hU aF hF
        have hC : Below V5.heap.size V5 W := hC'
        clear hC'
        have h14 : (Det (.pointer (some ⟨w.heap.size, 4, none⟩))) (uF 0) W := hU.1
        clear hU
        simp only [puts, Act.put, List.setIfInBounds_toArray, List.set_cons_zero, List.set_cons_succ] at hF
        generalize uF 0 = x14 at h14 hF
        obtain rfl : x14 = (.pointer (some ⟨w.heap.size, 4, none⟩)) := h14
        subst hF
        have d1 : W.cell? ⟨w.heap.size, 4, none⟩ = some (.slice A m c) := by rw [(HB1.out.below hC HB1.out.lt).cell]; rfl
        go_wp2_with (fail)
        exact ⟨rfl, rfl, (Below.refl _ _), ⟨_, _, rfl, (HD.out.below ((hw5.trans (hC.mono hz5)).mono hB)).more (Nat.le_trans hB (Nat.le_trans hz5 hC.size))⟩⟩
      · intro uF W hC' hU aF hF
        have hC : Below V5.heap.size V5 W := hC'
        clear hC'
        simp only [puts] at hF
        subst hF
        have d1 : W.cell? ⟨w.heap.size + 1, 0, none⟩ = some (.int .i64 (M : Int)) := by rw [(HB3.out.below hC HB3.out.lt).cell]; rfl
        go_wp2_with (fail)
        exact ⟨rfl, rfl, (Below.refl _ _), rfl⟩
      · intro uF W hC' hU aF hF
        have hC : Below V5.heap.size V5 W := hC'
        clear hC'
        have h16 : (Det (.int .i64 (M : Int))) (uF 2) W := hU.1
        clear hU
        simp only [puts, Act.put, List.setIfInBounds_toArray, List.set_cons_zero, List.set_cons_succ] at hF
        generalize uF 2 = x16 at h16 hF
        obtain rfl : x16 = (.int .i64 (M : Int)) := h16
        subst hF
        go_wp2_with (fail)
        exact ⟨rfl, rfl, (Below.refl _ _), rfl⟩
      · intro uF W hC' hU aF hF
        have hC : Below V5.heap.size V5 W := hC'
        clear hC'
        simp only [puts] at hF
        subst hF
        go_wp2_with (fail)
        exact ⟨rfl, rfl, (Below.refl _ _), rfl⟩
      · intro uF W hC' hU aF hF
        have hC : Below V5.heap.size V5 W := hC'
        clear hC'
        have h18 : (Det (.pointer (some ⟨w.heap.size, 4, none⟩))) (uF 4) W := hU.1
        clear hU
        simp only [puts, Act.put, List.setIfInBounds_toArray, List.set_cons_zero, List.set_cons_succ] at hF
        generalize uF 4 = x18 at h18 hF
        obtain rfl : x18 = (.pointer (some ⟨w.heap.size, 4, none⟩)) := h18
        subst hF
        have d1 : W.cell? ⟨w.heap.size, 4, none⟩ = some (.slice A m c) := by rw [(HB1.out.below hC HB1.out.lt).cell]; rfl
        go_wp2_with (fail)
        exact ⟨rfl, rfl, (Below.refl _ _), ⟨_, _, rfl, (HD.out.below ((hw5.trans (hC.mono hz5)).mono hB)).more (Nat.le_trans hB (Nat.le_trans hz5 hC.size))⟩⟩
      · intro uF W hC' hU aF hF
        have hC : Below V5.heap.size V5 W := hC'
        clear hC'
        have h19 : (RelB m ds) (uF 5) W := hU.1
        clear hU
        simp only [puts, Act.put, List.setIfInBounds_toArray, List.set_cons_zero, List.set_cons_succ] at hF
        generalize uF 5 = x19 at h19 hF
        obtain ⟨A19, c19, rfl, s19⟩ := h19
        subst hF
        go_wp2_with (fail)
        exact ⟨rfl, rfl, (Below.refl _ _), rfl⟩
      · intro uF W hC' hU aF hF
        have hC : Below V5.heap.size V5 W := hC'
        clear hC'
        have h17 : (Det (.int .i64 ((M : Int) * 128))) (uF 3) W := hU.1
        have h20 : (Det (.int .i64 (m : Int))) (uF 6) W := hU.2.1
        clear hU
        simp only [puts, Act.put, List.setIfInBounds_toArray, List.set_cons_zero, List.set_cons_succ] at hF
        generalize uF 3 = x17 at h17 hF
        generalize uF 6 = x20 at h20 hF
        obtain rfl : x17 = (.int .i64 ((M : Int) * 128)) := h17
        obtain rfl : x20 = (.int .i64 (m : Int)) := h20
        subst hF
        go_wp2_with (fail)
        exact ⟨rfl, rfl, (Below.refl _ _), rfl⟩
      · intro uF W hC' hU aF hF
        have hC : Below V5.heap.size V5 W := hC'
        clear hC'
        have h21 : (Det (.int .i64 ((M : Int) * 128 - (m : Int)))) (uF 7) W := hU.1
        clear hU
        simp only [puts, Act.put, List.setIfInBounds_toArray, List.set_cons_zero, List.set_cons_succ] at hF
        generalize uF 7 = x21 at h21 hF
        obtain rfl : x21 = (.int .i64 ((M : Int) * 128 - (m : Int))) := h21
        subst hF
        go_wp2_with (fail)
        exact ⟨rfl, rfl, (Below.refl _ _), rfl⟩
      · intro uF W hC' hU aF hF
        have hC : Below V5.heap.size V5 W := hC'
        clear hC'
        have h22 : (Det (.int .i64 (0))) (uF 8) W := hU.1
        clear hU
        simp only [puts, Act.put, List.setIfInBounds_toArray, List.set_cons_zero, List.set_cons_succ] at hF
        generalize uF 8 = x22 at h22 hF
        obtain rfl : x22 = (.int .i64 (0)) := h22
        subst hF
        have hmk := run_make8 z z (0) (0) (by have := HZ.out; omega) (by have := HZ.out; omega) (Nat.le_refl _) (by have := HZ.out; omega) W
        go_wp2_with (fail)
        exact ⟨rfl, rfl, (below_alloc _ _), RelB.new _ (List.replicate z 0) z (by simp) (by have := HZ.out; simp [maxLen]; omega) (zeros8_list z)⟩
      · intro uF W hC' hU aF hF
        have hC : Below V5.heap.size V5 W := hC'
        clear hC'
        have h15 : (RelB m ds) (uF 1) W := hU.1
        have h23 : (RelB z (List.replicate z 0)) (uF 9) W := hU.2.1
        clear hU
        simp only [puts, Act.put, List.setIfInBounds_toArray, List.set_cons_zero, List.set_cons_succ] at hF
        generalize uF 1 = x15 at h15 hF
        generalize uF 9 = x23 at h23 hF
        obtain ⟨A15, c15, rfl, s15⟩ := h15
        obtain ⟨A23, c23, rfl, s23⟩ := h23
        subst hF
        go_wp2_with (fail)
        exact ⟨rfl, rfl, (below_alloc _ _), RelP.two s15 s23⟩
      · intro uF W hC' hU aF hF
        have hC : Below V5.heap.size V5 W := hC'
        clear hC'
        have h24 : (RelP 2 [ds, List.replicate z 0]) (uF 10) W := hU.1
        clear hU
        simp only [puts, Act.put, List.setIfInBounds_toArray, List.set_cons_zero, List.set_cons_succ] at hF
        generalize uF 10 = x24 at h24 hF
        subst hF
        go_wp2_with ((go_at_call 60; refine (concat_p h24 (ds ++ List.replicate z 0) (by simp) N (by have := HN.out; simp; omega) (by have := HN.out; have := HZ.out; omega)).mono ?_; rintro e W1 ⟨A1, c1, rfl, h1, hb⟩))
        exact ⟨rfl, rfl, hb, ⟨_, _, rfl, Row.base_le h1 (Nat.le_trans hz05 hC.size)⟩⟩
      · intro uF W hC' hU aF hF
        have hC : Below V5.heap.size V5 W := hC'
        clear hC'
        simp only [puts] at hF
        subst hF
        go_wp2_with (fail)
        exact ⟨rfl, rfl, (below_alloc _ _), ⟨_, rfl, Nat.le_trans hz05 hC.size, hC.size, Blk.new _ _ _⟩⟩
    intro uF W5 hC' hU aF hF
    have hCW5 : Below V5.heap.size V5 W5 := hC'
    clear hC'
    have h25 : (RelO (w.heap.size + 2) N (ds ++ List.replicate z 0)) (uF 11) W5 := hU.2.2.2.2.2.2.2.2.2.2.2.1
    have h4 : (RelW (w.heap.size + 2) V5.heap.size 22 #[.slice none 0 0]) (uF 12) W5 := hU.2.2.2.2.2.2.2.2.2.2.2.2.1
    clear hU
    simp only [List.take_succ_cons, List.take_zero, puts, Act.put, List.setIfInBounds_toArray, List.set_cons_zero, List.set_cons_succ] at hF
    generalize uF 0 = x14 at hF
    generalize uF 1 = x15 at hF
    generalize uF 2 = x16 at hF
    generalize uF 3 = x17 at hF
    generalize uF 4 = x18 at hF
    generalize uF 5 = x19 at hF
    generalize uF 6 = x20 at hF
    generalize uF 7 = x21 at hF
    generalize uF 8 = x22 at hF
    generalize uF 9 = x23 at hF
    generalize uF 10 = x24 at hF
    generalize uF 11 = x25 at h25 hF
    generalize uF 12 = x4 at h4 hF
    obtain ⟨A25, c25, rfl, s25⟩ := h25
    obtain ⟨g4, rfl, z4, y4, b4⟩ := h4
    subst hF
    simp only [List.drop_succ_cons, List.drop_zero]
    have k4 : W5.cell? ⟨g4, 0, none⟩ = some (.slice none 0 0) := by rw [b4.cell]; rfl
    have f4 := b4.frozen 0
    have hne : wrote A25 c25 ≠ some g4 := not_cell s25 b4
    have e4 : Blk (W5.setCell ⟨g4, 0, none⟩ (.slice A25 N c25)) g4 22 #[.slice A25 N c25] := by simpa using b4.set_ 0 (.slice A25 N c25)
    have e5 : OwB (W5.setCell ⟨g4, 0, none⟩ (.slice A25 N c25)) (w.heap.size + 2) A25 N c25 (ds ++ List.replicate z 0) := Row.keepRow s25 (grownBy_setCell _ g4 0 _) (.inr hne)
    have e6 : Below V5.heap.size V5 (W5.setCell ⟨g4, 0, none⟩ (.slice A25 N c25)) := hCW5.setCell (p := ⟨g4, 0, none⟩) (by show V5.heap.size ≤ g4; exact y4) _
    refine wpListIn_of free_wide (fun ⟨_, _, h⟩ => h) rfl ?_
    go_wp2_with fail
    exact ⟨g4, A25, c25, ⟨_, _, _, _, _, _, _, _, _, _, _, _, _, _, _, _, _, _, _, _, _, rfl⟩, z4, e4, e5, hne, e6⟩
  rintro e a' w6 h
  cases e with
  | normal =>
    obtain ⟨g4, A25, c25, ⟨y5, y6, y7, y8, y9, y10, y11, y12, y13, y14, y15, y16, y17, y18, y19, y20, y21, y22, y23, y24, y25, rfl⟩, z4, e4, e5, hne, e6⟩ := h
    have b16 := HB1.out.below e6 HB1.out.lt
    have b36 := HB3.out.below e6 HB3.out.lt
    have hw6 := hw5.trans (e6.mono hz5)
    go_wp2_with fail
    go_ret
    exact ⟨g4, A25, c25, rfl, z4, b16, b36, e4, e5, hne, hw6⟩
  | _ => exact h.elim

set_option maxHeartbeats 4000000 in
theorem blocks_bad_ge {w : World} {B : Nat} {A : Option Addr} {m c : Nat} {ds : List UInt8} (kind unit block many op who key new ty : Int) (st : Bool) (hd : SlB w B A m c ds) (hB : B ≤ w.heap.size) (hm : m ≤ 1000000) (M : Nat) (hM : M = 0) (hmv : (kind == 1 || kind == 2) = true) (x : Int) (hck : ∀ v, Below w.heap.size w v → Calls Try.prog 31 #[.agg #[.int .i64 kind, .int .i64 unit, .int .i64 block, .int .i64 many, .slice A m c, .int .i64 op, .int .i64 who, .int .i64 key, .int .i64 new, .int .i64 ty, .bool st]] v fun e w' => e = .returned (.iface 35 (.int .i64 x)) ∧ Below v.heap.size v w') (z N : Nat) (hzz : z = 128 * M - m) (hN : N = m + z) (hge : 0 ≤ (M : Int) * 128 - (m : Int)) :
    Calls Try.prog 39 #[.agg #[.int .i64 kind, .int .i64 unit, .int .i64 block, .int .i64 many, .slice A m c, .int .i64 op, .int .i64 who, .int .i64 key, .int .i64 new, .int .i64 ty, .bool st]] w fun e w' => ∃ g4 A' c', e = .returned (.func (.func 61) #[] #[.pointer (some ⟨w.heap.size + 1, 0, none⟩), .pointer (some ⟨w.heap.size, 0, none⟩), .pointer (some ⟨g4, 0, none⟩)]) ∧ w.heap.size + 2 ≤ g4 ∧
      Blk w' w.heap.size 56 #[.int .i64 kind, .int .i64 unit, .int .i64 block, .int .i64 many, .slice A m c, .int .i64 op, .int .i64 who, .int .i64 key, .int .i64 new, .int .i64 ty, .bool st] ∧ Blk w' (w.heap.size + 1) 3 #[.int .i64 (M : Int)] ∧ Blk w' g4 22 #[.slice A' N c'] ∧ OwB w' (w.heap.size + 2) A' N c' (ds ++ List.replicate z 0) ∧ NotCell A' c' g4 ∧ Below w.heap.size w w' := by
  have hlen := hd.len
  have hmx := hd.mx
  obtain ⟨v, hv⟩ : ∃ v, v = (w.alloc (.cells #[.int .i64 kind, .int .i64 unit, .int .i64 block, .int .i64 many, .slice A m c, .int .i64 op, .int .i64 who, .int .i64 key, .int .i64 new, .int .i64 ty, .bool st] 56)).alloc (.cells #[.int .i64 0] 3) := ⟨_, rfl⟩
  have b1 : Blk v w.heap.size 56 #[.int .i64 kind, .int .i64 unit, .int .i64 block, .int .i64 many, .slice A m c, .int .i64 op, .int .i64 who, .int .i64 key, .int .i64 new, .int .i64 ty, .bool st] := by rw [hv]; exact (Blk.new w _ _).alloc _
  have b3 : Blk v (w.heap.size + 1) 3 #[.int .i64 0] := by
    have := Blk.new (w.alloc (.cells #[.int .i64 kind, .int .i64 unit, .int .i64 block, .int .i64 many, .slice A m c, .int .i64 op, .int .i64 who, .int .i64 key, .int .i64 new, .int .i64 ty, .bool st] 56)) 3 #[.int .i64 0]
    rw [World.size_alloc] at this
    rw [hv]; exact this
  have hbv : Below w.heap.size w v := by rw [hv]; exact ((Below.refl _ _).alloc (Nat.le_refl _) _).alloc (by simp) _
  have hz := hbv.size
  have hzv : w.heap.size + 2 ≤ v.heap.size := by have := b3.lt; omega
  have HV := Lib.hid hv
  have HD := Lib.hid hd
  clear hv hd
  go_enter Try.func39, Try.ntmps39
  go_wp2_with (first
    | ((with_reducible show wpList _ _ _ (Oper.mk (some 5) (Op.load 56 _) _ _ _ _ :: _) _ _); rw [← HV.out]; refine wpList_load_whole rfl 56 (.tmp 1) rfl w.heap.size rfl #[.int .i64 kind, .int .i64 unit, .int .i64 block, .int .i64 many, .slice A m c, .int .i64 op, .int .i64 who, .int .i64 key, .int .i64 new, .int .i64 ty, .bool st] aggCm rfl _ b1 ?_)
    | (go_at_call 58; refine (moves_c kind unit block many op who key new ty st v).mono ?_; rintro e w2 ⟨rfl, hb2⟩; rw [hmv]; have hw2 := hbv.trans (hb2.mono hz); have hz2 := hw2.size; have b12 := b1.below hb2 b1.lt; have b32 := b3.below hb2 b3.lt; have hz02 := hb2.size)
    | ((with_reducible show wpList _ _ _ (Oper.mk (some 8) (Op.load 56 _) _ _ _ _ :: _) _ _); refine wpList_load_whole rfl 56 (.tmp 1) rfl w.heap.size rfl #[.int .i64 kind, .int .i64 unit, .int .i64 block, .int .i64 many, .slice A m c, .int .i64 op, .int .i64 who, .int .i64 key, .int .i64 new, .int .i64 ty, .bool st] aggCm rfl _ b12 ?_)
    | (go_at_call 31; refine (hck w2 hw2).mono ?_; rintro e w4 ⟨rfl, hb4⟩; have hw4 := hw2.trans (hb4.mono hz2); have hz4 := hw4.size; have b14 := b12.below hb4 b12.lt; have b34 := b32.below hb4 b32.lt; have hz04 := Nat.le_trans hz02 hb4.size; have q3 : w4.cell? ⟨w.heap.size, 3, none⟩ = some (.int .i64 many) := (by rw [b14.cell]; rfl)))
  obtain ⟨V5, hV5⟩ : ∃ V5, V5 = w4 := ⟨_, rfl⟩
  rw [← hV5]
  have b15 : Blk V5 w.heap.size 56 #[.int .i64 kind, .int .i64 unit, .int .i64 block, .int .i64 many, .slice A m c, .int .i64 op, .int .i64 who, .int .i64 key, .int .i64 new, .int .i64 ty, .bool st] := by rw [hV5]; exact b14
  have b35 : Blk V5 (w.heap.size + 1) 3 #[.int .i64 (M : Int)] := by rw [hV5, hM]; exact b34
  have hw5 : Below w.heap.size w V5 := by rw [hV5]; exact hw4
  have hz05 : w.heap.size + 2 ≤ V5.heap.size := by rw [hV5]; omega
  have hz5 := hw5.size
  have hMb : M ≤ 65536 := by omega
  have HM := Lib.hid hM
  have HB1 := Lib.hid b15
  have HB3 := Lib.hid b35
  have HZ := Lib.hid hzz
  have HN := Lib.hid hN
  clear hV5 b15 b35 hzz hN hM
  refine Code.wp_mono (Q := Exit.then (fun a' w' => ∃ g4 A' c', (∃ y5 y6 y7 y8 y9 y10 y11 y12 y13 y14 y15 y16 y17 y18 y19 y20 y21 y22 y23 y24 y25 : Value, a' = { tmps := #[.agg #[.int .i64 kind, .int .i64 unit, .int .i64 block, .int .i64 many, .slice A m c, .int .i64 op, .int .i64 who, .int .i64 key, .int .i64 new, .int .i64 ty, .bool st], .pointer (some ⟨w.heap.size, 0, none⟩), .nilFunc, .pointer (some ⟨w.heap.size + 1, 0, none⟩), .pointer (some ⟨g4, 0, none⟩), y5, y6, y7, y8, y9, y10, y11, y12, y13, y14, y15, y16, y17, y18, y19, y20, y21, y22, y23, y24, y25, undef], defers := [] }) ∧ w.heap.size + 2 ≤ g4 ∧ Blk w' g4 22 #[.slice A' N c'] ∧ OwB w' (w.heap.size + 2) A' N c' (ds ++ List.replicate z 0) ∧ NotCell A' c' g4 ∧ Below V5.heap.size V5 w') (fun _ _ _ => False)) ?_ ?_
  rotate_left
  · refine (wpIn_wide (n := 4)).1 ?_
    refine wpIn_region_rel free_wide rfl 13 (fun W W' => Below W.heap.size W W') (fun W => Below V5.heap.size V5 W)
      [Det (.pointer (some ⟨w.heap.size, 4, none⟩)), RelB m ds, Det (.int .i64 (M : Int)), Det (.int .i64 ((M : Int) * 128)), Det (.pointer (some ⟨w.heap.size, 4, none⟩)), RelB m ds, Det (.int .i64 (m : Int)), Det (.int .i64 ((M : Int) * 128 - (m : Int))), Det (.int .i64 ((M : Int) * 128 - (m : Int))), RelB z (List.replicate z 0), RelP 2 [ds, List.replicate z 0], RelO (w.heap.size + 2) N (ds ++ List.replicate z 0), RelW (w.heap.size + 2) V5.heap.size 22 #[.slice none 0 0], Any]
      [[], [(0, some 14)], [], [(2, some 16)], [], [(4, some 18)], [(5, some 19)], [(3, some 17), (6, some 20)], [(7, some 21)], [(8, some 22)], [(1, some 15), (9, some 23)], [(10, some 24)], [], [(12, some 4), (11, some 25)]]
      [[], [0], [], [2], [], [4], [4, 5], [2, 3, 4, 5, 6], [2, 3, 4, 5, 6, 7], [2, 3, 4, 5, 6, 7, 8], [0, 1, 2, 3, 4, 5, 6, 7, 8, 9], [0, 1, 2, 3, 4, 5, 6, 7, 8, 9, 10], [], [0, 1, 2, 3, 4, 5, 6, 7, 8, 9, 10, 11, 12]]
      [(0, some 14), (1, some 15), (2, some 16), (3, some 17), (4, some 18), (5, some 19), (6, some 20), (7, some 21), (8, some 22), (9, some 23), (10, some 24), (11, some 25), (12, some 4), (13, none)] (by kernel_rfl) (by kernel_rfl) (by kernel_rfl) (fun W W' h1 h2 => h1.trans (h2.mono h1.size)) ((Below.refl _ _).drew) ?_ ?_ ?_
    · exact (AllMono.cons Det.later (AllMono.cons RelB.later (AllMono.cons Det.later (AllMono.cons Det.later (AllMono.cons Det.later (AllMono.cons RelB.later (AllMono.cons Det.later (AllMono.cons Det.later (AllMono.cons Det.later (AllMono.cons RelB.later (AllMono.cons RelP.later (AllMono.cons RelO.later (AllMono.cons RelW.later (AllMono.cons Any.later AllMono.nil))))))))))))))
    · refine AllOb.cons ?_ (AllOb.cons ?_ (AllOb.cons ?_ (AllOb.cons ?_ (AllOb.cons ?_ (AllOb.cons ?_ (AllOb.cons ?_ (AllOb.cons ?_ (AllOb.cons ?_ (AllOb.cons ?_ (AllOb.cons ?_ (AllOb.cons ?_ (AllOb.cons ?_ (AllOb.nil)))))))))))))
      · intro uF W hC' hU aF hF
        have hC : Below V5.heap.size V5 W := hC'
        clear hC'
        simp only [puts] at hF
        subst hF
        go_wp2_with (fail)
        exact ⟨rfl, rfl, (Below.refl _ _), rfl⟩
      · intro uF W hC' hU aF hF
        have hC : Below V5.heap.size V5 W := hC'
        clear hC'
        have h14 : (Det (.pointer (some ⟨w.heap.size, 4, none⟩))) (uF 0) W := hU.1
        clear hU
        simp only [puts, Act.put, List.setIfInBounds_toArray, List.set_cons_zero, List.set_cons_succ] at hF
        generalize uF 0 = x14 at h14 hF
        obtain rfl : x14 = (.pointer (some ⟨w.heap.size, 4, none⟩)) := h14
        subst hF
        have d1 : W.cell? ⟨w.heap.size, 4, none⟩ = some (.slice A m c) := by rw [(HB1.out.below hC HB1.out.lt).cell]; rfl
        go_wp2_with (fail)
        exact ⟨rfl, rfl, (Below.refl _ _), ⟨_, _, rfl, (HD.out.below ((hw5.trans (hC.mono hz5)).mono hB)).more (Nat.le_trans hB (Nat.le_trans hz5 hC.size))⟩⟩
      · intro uF W hC' hU aF hF
        have hC : Below V5.heap.size V5 W := hC'
        clear hC'
        simp only [puts] at hF
        subst hF
        have d1 : W.cell? ⟨w.heap.size + 1, 0, none⟩ = some (.int .i64 (M : Int)) := by rw [(HB3.out.below hC HB3.out.lt).cell]; rfl
        go_wp2_with (fail)
        exact ⟨rfl, rfl, (Below.refl _ _), rfl⟩
      · intro uF W hC' hU aF hF
        have hC : Below V5.heap.size V5 W := hC'
        clear hC'
        have h16 : (Det (.int .i64 (M : Int))) (uF 2) W := hU.1
        clear hU
        simp only [puts, Act.put, List.setIfInBounds_toArray, List.set_cons_zero, List.set_cons_succ] at hF
        generalize uF 2 = x16 at h16 hF
        obtain rfl : x16 = (.int .i64 (M : Int)) := h16
        subst hF
        go_wp2_with (fail)
        exact ⟨rfl, rfl, (Below.refl _ _), rfl⟩
      · intro uF W hC' hU aF hF
        have hC : Below V5.heap.size V5 W := hC'
        clear hC'
        simp only [puts] at hF
        subst hF
        go_wp2_with (fail)
        exact ⟨rfl, rfl, (Below.refl _ _), rfl⟩
      · intro uF W hC' hU aF hF
        have hC : Below V5.heap.size V5 W := hC'
        clear hC'
        have h18 : (Det (.pointer (some ⟨w.heap.size, 4, none⟩))) (uF 4) W := hU.1
        clear hU
        simp only [puts, Act.put, List.setIfInBounds_toArray, List.set_cons_zero, List.set_cons_succ] at hF
        generalize uF 4 = x18 at h18 hF
        obtain rfl : x18 = (.pointer (some ⟨w.heap.size, 4, none⟩)) := h18
        subst hF
        have d1 : W.cell? ⟨w.heap.size, 4, none⟩ = some (.slice A m c) := by rw [(HB1.out.below hC HB1.out.lt).cell]; rfl
        go_wp2_with (fail)
        exact ⟨rfl, rfl, (Below.refl _ _), ⟨_, _, rfl, (HD.out.below ((hw5.trans (hC.mono hz5)).mono hB)).more (Nat.le_trans hB (Nat.le_trans hz5 hC.size))⟩⟩
      · intro uF W hC' hU aF hF
        have hC : Below V5.heap.size V5 W := hC'
        clear hC'
        have h19 : (RelB m ds) (uF 5) W := hU.1
        clear hU
        simp only [puts, Act.put, List.setIfInBounds_toArray, List.set_cons_zero, List.set_cons_succ] at hF
        generalize uF 5 = x19 at h19 hF
        obtain ⟨A19, c19, rfl, s19⟩ := h19
        subst hF
        go_wp2_with (fail)
        exact ⟨rfl, rfl, (Below.refl _ _), rfl⟩
      · intro uF W hC' hU aF hF
        have hC : Below V5.heap.size V5 W := hC'
        clear hC'
        have h17 : (Det (.int .i64 ((M : Int) * 128))) (uF 3) W := hU.1
        have h20 : (Det (.int .i64 (m : Int))) (uF 6) W := hU.2.1
        clear hU
        simp only [puts, Act.put, List.setIfInBounds_toArray, List.set_cons_zero, List.set_cons_succ] at hF
        generalize uF 3 = x17 at h17 hF
        generalize uF 6 = x20 at h20 hF
        obtain rfl : x17 = (.int .i64 ((M : Int) * 128)) := h17
        obtain rfl : x20 = (.int .i64 (m : Int)) := h20
        subst hF
        go_wp2_with (fail)
        exact ⟨rfl, rfl, (Below.refl _ _), rfl⟩
      · intro uF W hC' hU aF hF
        have hC : Below V5.heap.size V5 W := hC'
        clear hC'
        have h21 : (Det (.int .i64 ((M : Int) * 128 - (m : Int)))) (uF 7) W := hU.1
        clear hU
        simp only [puts, Act.put, List.setIfInBounds_toArray, List.set_cons_zero, List.set_cons_succ] at hF
        generalize uF 7 = x21 at h21 hF
        obtain rfl : x21 = (.int .i64 ((M : Int) * 128 - (m : Int))) := h21
        subst hF
        go_wp2_with (fail)
        exact ⟨rfl, rfl, (Below.refl _ _), rfl⟩
      · intro uF W hC' hU aF hF
        have hC : Below V5.heap.size V5 W := hC'
        clear hC'
        have h22 : (Det (.int .i64 ((M : Int) * 128 - (m : Int)))) (uF 8) W := hU.1
        clear hU
        simp only [puts, Act.put, List.setIfInBounds_toArray, List.set_cons_zero, List.set_cons_succ] at hF
        generalize uF 8 = x22 at h22 hF
        obtain rfl : x22 = (.int .i64 ((M : Int) * 128 - (m : Int))) := h22
        subst hF
        have hmk := run_make8 z z ((M : Int) * 128 - (m : Int)) ((M : Int) * 128 - (m : Int)) (by have := HZ.out; omega) (by have := HZ.out; omega) (Nat.le_refl _) (by have := HZ.out; omega) W
        go_wp2_with (fail)
        exact ⟨rfl, rfl, (below_alloc _ _), RelB.new _ (List.replicate z 0) z (by simp) (by have := HZ.out; simp [maxLen]; omega) (zeros8_list z)⟩
      · intro uF W hC' hU aF hF
        have hC : Below V5.heap.size V5 W := hC'
        clear hC'
        have h15 : (RelB m ds) (uF 1) W := hU.1
        have h23 : (RelB z (List.replicate z 0)) (uF 9) W := hU.2.1
        clear hU
        simp only [puts, Act.put, List.setIfInBounds_toArray, List.set_cons_zero, List.set_cons_succ] at hF
        generalize uF 1 = x15 at h15 hF
        generalize uF 9 = x23 at h23 hF
        obtain ⟨A15, c15, rfl, s15⟩ := h15
        obtain ⟨A23, c23, rfl, s23⟩ := h23
        subst hF
        go_wp2_with (fail)
        exact ⟨rfl, rfl, (below_alloc _ _), RelP.two s15 s23⟩
      · intro uF W hC' hU aF hF
        have hC : Below V5.heap.size V5 W := hC'
        clear hC'
        have h24 : (RelP 2 [ds, List.replicate z 0]) (uF 10) W := hU.1
        clear hU
        simp only [puts, Act.put, List.setIfInBounds_toArray, List.set_cons_zero, List.set_cons_succ] at hF
        generalize uF 10 = x24 at h24 hF
        subst hF
        go_wp2_with ((go_at_call 60; refine (concat_p h24 (ds ++ List.replicate z 0) (by simp) N (by have := HN.out; simp; omega) (by have := HN.out; have := HZ.out; omega)).mono ?_; rintro e W1 ⟨A1, c1, rfl, h1, hb⟩))
        exact ⟨rfl, rfl, hb, ⟨_, _, rfl, Row.base_le h1 (Nat.le_trans hz05 hC.size)⟩⟩
      · intro uF W hC' hU aF hF
        have hC : Below V5.heap.size V5 W := hC'
        clear hC'
        simp only [puts] at hF
        subst hF
        go_wp2_with (fail)
        exact ⟨rfl, rfl, (below_alloc _ _), ⟨_, rfl, Nat.le_trans hz05 hC.size, hC.size, Blk.new _ _ _⟩⟩
    intro uF W5 hC' hU aF hF
    have hCW5 : Below V5.heap.size V5 W5 := hC'
    clear hC'
    have h25 : (RelO (w.heap.size + 2) N (ds ++ List.replicate z 0)) (uF 11) W5 := hU.2.2.2.2.2.2.2.2.2.2.2.1
    have h4 : (RelW (w.heap.size + 2) V5.heap.size 22 #[.slice none 0 0]) (uF 12) W5 := hU.2.2.2.2.2.2.2.2.2.2.2.2.1
    clear hU
    simp only [List.take_succ_cons, List.take_zero, puts, Act.put, List.setIfInBounds_toArray, List.set_cons_zero, List.set_cons_succ] at hF
    generalize uF 0 = x14 at hF
    generalize uF 1 = x15 at hF
    generalize uF 2 = x16 at hF
    generalize uF 3 = x17 at hF
    generalize uF 4 = x18 at hF
    generalize uF 5 = x19 at hF
    generalize uF 6 = x20 at hF
    generalize uF 7 = x21 at hF
    generalize uF 8 = x22 at hF
    generalize uF 9 = x23 at hF
    generalize uF 10 = x24 at hF
    generalize uF 11 = x25 at h25 hF
    generalize uF 12 = x4 at h4 hF
    obtain ⟨A25, c25, rfl, s25⟩ := h25
    obtain ⟨g4, rfl, z4, y4, b4⟩ := h4
    subst hF
    simp only [List.drop_succ_cons, List.drop_zero]
    have k4 : W5.cell? ⟨g4, 0, none⟩ = some (.slice none 0 0) := by rw [b4.cell]; rfl
    have f4 := b4.frozen 0
    have hne : wrote A25 c25 ≠ some g4 := not_cell s25 b4
    have e4 : Blk (W5.setCell ⟨g4, 0, none⟩ (.slice A25 N c25)) g4 22 #[.slice A25 N c25] := by simpa using b4.set_ 0 (.slice A25 N c25)
    have e5 : OwB (W5.setCell ⟨g4, 0, none⟩ (.slice A25 N c25)) (w.heap.size + 2) A25 N c25 (ds ++ List.replicate z 0) := Row.keepRow s25 (grownBy_setCell _ g4 0 _) (.inr hne)
    have e6 : Below V5.heap.size V5 (W5.setCell ⟨g4, 0, none⟩ (.slice A25 N c25)) := hCW5.setCell (p := ⟨g4, 0, none⟩) (by show V5.heap.size ≤ g4; exact y4) _
    refine wpListIn_of free_wide (fun ⟨_, _, h⟩ => h) rfl ?_
    go_wp2_with fail
    exact ⟨g4, A25, c25, ⟨_, _, _, _, _, _, _, _, _, _, _, _, _, _, _, _, _, _, _, _, _, rfl⟩, z4, e4, e5, hne, e6⟩
  rintro e a' w6 h
  cases e with
  | normal =>
    obtain ⟨g4, A25, c25, ⟨y5, y6, y7, y8, y9, y10, y11, y12, y13, y14, y15, y16, y17, y18, y19, y20, y21, y22, y23, y24, y25, rfl⟩, z4, e4, e5, hne, e6⟩ := h
    have b16 := HB1.out.below e6 HB1.out.lt
    have b36 := HB3.out.below e6 HB3.out.lt
    have hw6 := hw5.trans (e6.mono hz5)
    go_wp2_with fail
    go_ret
    exact ⟨g4, A25, c25, rfl, z4, b16, b36, e4, e5, hne, hw6⟩
  | _ => exact h.elim

set_option maxHeartbeats 4000000 in
theorem blocks_bad_lt {w : World} {B : Nat} {A : Option Addr} {m c : Nat} {ds : List UInt8} (kind unit block many op who key new ty : Int) (st : Bool) (hd : SlB w B A m c ds) (hB : B ≤ w.heap.size) (hm : m ≤ 1000000) (M : Nat) (hM : M = 0) (hmv : (kind == 1 || kind == 2) = true) (x : Int) (hck : ∀ v, Below w.heap.size w v → Calls Try.prog 31 #[.agg #[.int .i64 kind, .int .i64 unit, .int .i64 block, .int .i64 many, .slice A m c, .int .i64 op, .int .i64 who, .int .i64 key, .int .i64 new, .int .i64 ty, .bool st]] v fun e w' => e = .returned (.iface 35 (.int .i64 x)) ∧ Below v.heap.size v w') (z N : Nat) (hzz : z = 128 * M - m) (hN : N = m + z) (hge : ¬ 0 ≤ (M : Int) * 128 - (m : Int)) :
    Calls Try.prog 39 #[.agg #[.int .i64 kind, .int .i64 unit, .int .i64 block, .int .i64 many, .slice A m c, .int .i64 op, .int .i64 who, .int .i64 key, .int .i64 new, .int .i64 ty, .bool st]] w fun e w' => ∃ g4 A' c', e = .returned (.func (.func 61) #[] #[.pointer (some ⟨w.heap.size + 1, 0, none⟩), .pointer (some ⟨w.heap.size, 0, none⟩), .pointer (some ⟨g4, 0, none⟩)]) ∧ w.heap.size + 2 ≤ g4 ∧
      Blk w' w.heap.size 56 #[.int .i64 kind, .int .i64 unit, .int .i64 block, .int .i64 many, .slice A m c, .int .i64 op, .int .i64 who, .int .i64 key, .int .i64 new, .int .i64 ty, .bool st] ∧ Blk w' (w.heap.size + 1) 3 #[.int .i64 (M : Int)] ∧ Blk w' g4 22 #[.slice A' N c'] ∧ OwB w' (w.heap.size + 2) A' N c' (ds ++ List.replicate z 0) ∧ NotCell A' c' g4 ∧ Below w.heap.size w w' := by
  have hlen := hd.len
  have hmx := hd.mx
  obtain ⟨v, hv⟩ : ∃ v, v = (w.alloc (.cells #[.int .i64 kind, .int .i64 unit, .int .i64 block, .int .i64 many, .slice A m c, .int .i64 op, .int .i64 who, .int .i64 key, .int .i64 new, .int .i64 ty, .bool st] 56)).alloc (.cells #[.int .i64 0] 3) := ⟨_, rfl⟩
  have b1 : Blk v w.heap.size 56 #[.int .i64 kind, .int .i64 unit, .int .i64 block, .int .i64 many, .slice A m c, .int .i64 op, .int .i64 who, .int .i64 key, .int .i64 new, .int .i64 ty, .bool st] := by rw [hv]; exact (Blk.new w _ _).alloc _
  have b3 : Blk v (w.heap.size + 1) 3 #[.int .i64 0] := by
    have := Blk.new (w.alloc (.cells #[.int .i64 kind, .int .i64 unit, .int .i64 block, .int .i64 many, .slice A m c, .int .i64 op, .int .i64 who, .int .i64 key, .int .i64 new, .int .i64 ty, .bool st] 56)) 3 #[.int .i64 0]
    rw [World.size_alloc] at this
    rw [hv]; exact this
  have hbv : Below w.heap.size w v := by rw [hv]; exact ((Below.refl _ _).alloc (Nat.le_refl _) _).alloc (by simp) _
  have hz := hbv.size
  have hzv : w.heap.size + 2 ≤ v.heap.size := by have := b3.lt; omega
  have HV := Lib.hid hv
  have HD := Lib.hid hd
  clear hv hd
  go_enter Try.func39, Try.ntmps39
  go_wp2_with (first
    | ((with_reducible show wpList _ _ _ (Oper.mk (some 5) (Op.load 56 _) _ _ _ _ :: _) _ _); rw [← HV.out]; refine wpList_load_whole rfl 56 (.tmp 1) rfl w.heap.size rfl #[.int .i64 kind, .int .i64 unit, .int .i64 block, .int .i64 many, .slice A m c, .int .i64 op, .int .i64 who, .int .i64 key, .int .i64 new, .int .i64 ty, .bool st] aggCm rfl _ b1 ?_)
    | (go_at_call 58; refine (moves_c kind unit block many op who key new ty st v).mono ?_; rintro e w2 ⟨rfl, hb2⟩; rw [hmv]; have hw2 := hbv.trans (hb2.mono hz); have hz2 := hw2.size; have b12 := b1.below hb2 b1.lt; have b32 := b3.below hb2 b3.lt; have hz02 := hb2.size)
    | ((with_reducible show wpList _ _ _ (Oper.mk (some 8) (Op.load 56 _) _ _ _ _ :: _) _ _); refine wpList_load_whole rfl 56 (.tmp 1) rfl w.heap.size rfl #[.int .i64 kind, .int .i64 unit, .int .i64 block, .int .i64 many, .slice A m c, .int .i64 op, .int .i64 who, .int .i64 key, .int .i64 new, .int .i64 ty, .bool st] aggCm rfl _ b12 ?_)
    | (go_at_call 31; refine (hck w2 hw2).mono ?_; rintro e w4 ⟨rfl, hb4⟩; have hw4 := hw2.trans (hb4.mono hz2); have hz4 := hw4.size; have b14 := b12.below hb4 b12.lt; have b34 := b32.below hb4 b32.lt; have hz04 := Nat.le_trans hz02 hb4.size; have q3 : w4.cell? ⟨w.heap.size, 3, none⟩ = some (.int .i64 many) := (by rw [b14.cell]; rfl)))
  obtain ⟨V5, hV5⟩ : ∃ V5, V5 = w4 := ⟨_, rfl⟩
  rw [← hV5]
  have b15 : Blk V5 w.heap.size 56 #[.int .i64 kind, .int .i64 unit, .int .i64 block, .int .i64 many, .slice A m c, .int .i64 op, .int .i64 who, .int .i64 key, .int .i64 new, .int .i64 ty, .bool st] := by rw [hV5]; exact b14
  have b35 : Blk V5 (w.heap.size + 1) 3 #[.int .i64 (M : Int)] := by rw [hV5, hM]; exact b34
  have hw5 : Below w.heap.size w V5 := by rw [hV5]; exact hw4
  have hz05 : w.heap.size + 2 ≤ V5.heap.size := by rw [hV5]; omega
  have hz5 := hw5.size
  have hMb : M ≤ 65536 := by omega
  have HM := Lib.hid hM
  have HB1 := Lib.hid b15
  have HB3 := Lib.hid b35
  have HZ := Lib.hid hzz
  have HN := Lib.hid hN
  clear hV5 b15 b35 hzz hN hM
  refine Code.wp_mono (Q := Exit.then (fun a' w' => ∃ g4 A' c', (∃ y5 y6 y7 y8 y9 y10 y11 y12 y13 y14 y15 y16 y17 y18 y19 y20 y21 y22 y23 y24 y25 : Value, a' = { tmps := #[.agg #[.int .i64 kind, .int .i64 unit, .int .i64 block, .int .i64 many, .slice A m c, .int .i64 op, .int .i64 who, .int .i64 key, .int .i64 new, .int .i64 ty, .bool st], .pointer (some ⟨w.heap.size, 0, none⟩), .nilFunc, .pointer (some ⟨w.heap.size + 1, 0, none⟩), .pointer (some ⟨g4, 0, none⟩), y5, y6, y7, y8, y9, y10, y11, y12, y13, y14, y15, y16, y17, y18, y19, y20, y21, y22, y23, y24, y25, undef], defers := [] }) ∧ w.heap.size + 2 ≤ g4 ∧ Blk w' g4 22 #[.slice A' N c'] ∧ OwB w' (w.heap.size + 2) A' N c' (ds ++ List.replicate z 0) ∧ NotCell A' c' g4 ∧ Below V5.heap.size V5 w') (fun _ _ _ => False)) ?_ ?_
  rotate_left
  · refine (wpIn_wide (n := 4)).1 ?_
    refine wpIn_region_rel free_wide rfl 13 (fun W W' => Below W.heap.size W W') (fun W => Below V5.heap.size V5 W)
      [Det (.pointer (some ⟨w.heap.size, 4, none⟩)), RelB m ds, Det (.int .i64 (M : Int)), Det (.int .i64 ((M : Int) * 128)), Det (.pointer (some ⟨w.heap.size, 4, none⟩)), RelB m ds, Det (.int .i64 (m : Int)), Det (.int .i64 ((M : Int) * 128 - (m : Int))), Det (.int .i64 (0)), RelB z (List.replicate z 0), RelP 2 [ds, List.replicate z 0], RelO (w.heap.size + 2) N (ds ++ List.replicate z 0), RelW (w.heap.size + 2) V5.heap.size 22 #[.slice none 0 0], Any]
      [[], [(0, some 14)], [], [(2, some 16)], [], [(4, some 18)], [(5, some 19)], [(3, some 17), (6, some 20)], [(7, some 21)], [(8, some 22)], [(1, some 15), (9, some 23)], [(10, some 24)], [], [(12, some 4), (11, some 25)]]
      [[], [0], [], [2], [], [4], [4, 5], [2, 3, 4, 5, 6], [2, 3, 4, 5, 6, 7], [2, 3, 4, 5, 6, 7, 8], [0, 1, 2, 3, 4, 5, 6, 7, 8, 9], [0, 1, 2, 3, 4, 5, 6, 7, 8, 9, 10], [], [0, 1, 2, 3, 4, 5, 6, 7, 8, 9, 10, 11, 12]]
      [(0, some 14), (1, some 15), (2, some 16), (3, some 17), (4, some 18), (5, some 19), (6, some 20), (7, some 21), (8, some 22), (9, some 23), (10, some 24), (11, some 25), (12, some 4), (13, none)] (by kernel_rfl) (by kernel_rfl) (by kernel_rfl) (fun W W' h1 h2 => h1.trans (h2.mono h1.size)) ((Below.refl _ _).drew) ?_ ?_ ?_
    · exact (AllMono.cons Det.later (AllMono.cons RelB.later (AllMono.cons Det.later (AllMono.cons Det.later (AllMono.cons Det.later (AllMono.cons RelB.later (AllMono.cons Det.later (AllMono.cons Det.later (AllMono.cons Det.later (AllMono.cons RelB.later (AllMono.cons RelP.later (AllMono.cons RelO.later (AllMono.cons RelW.later (AllMono.cons Any.later AllMono.nil))))))))))))))
    · refine AllOb.cons ?_ (AllOb.cons ?_ (AllOb.cons ?_ (AllOb.cons ?_ (AllOb.cons ?_ (AllOb.cons ?_ (AllOb.cons ?_ (AllOb.cons ?_ (AllOb.cons ?_ (AllOb.cons ?_ (AllOb.cons ?_ (AllOb.cons ?_ (AllOb.cons ?_ (AllOb.nil)))))))))))))
      · intro uF W hC' hU aF hF
        have hC : Below V5.heap.size V5 W := hC'
        clear hC'
        simp only [puts] at hF
        subst hF
        go_wp2_with (fail)
        exact ⟨rfl, rfl, (Below.refl _ _), rfl⟩
      · intro uF W hC' hU aF hF
        have hC : Below V5.heap.size V5 W := hC'
        clear hC'
        have h14 : (Det (.pointer (some ⟨w.heap.size, 4, none⟩))) (uF 0) W := hU.1
        clear hU
        simp only [puts, Act.put, List.setIfInBounds_toArray, List.set_cons_zero, List.set_cons_succ] at hF
        generalize uF 0 = x14 at h14 hF
        obtain rfl : x14 = (.pointer (some ⟨w.heap.size, 4, none⟩)) := h14
        subst hF
        have d1 : W.cell? ⟨w.heap.size, 4, none⟩ = some (.slice A m c) := by rw [(HB1.out.below hC HB1.out.lt).cell]; rfl
        go_wp2_with (fail)
        exact ⟨rfl, rfl, (Below.refl _ _), ⟨_, _, rfl, (HD.out.below ((hw5.trans (hC.mono hz5)).mono hB)).more (Nat.le_trans hB (Nat.le_trans hz5 hC.size))⟩⟩
      · intro uF W hC' hU aF hF
        have hC : Below V5.heap.size V5 W := hC'
        clear hC'
        simp only [puts] at hF
        subst hF
        have d1 : W.cell? ⟨w.heap.size + 1, 0, none⟩ = some (.int .i64 (M : Int)) := by rw [(HB3.out.below hC HB3.out.lt).cell]; rfl
        go_wp2_with (fail)
        exact ⟨rfl, rfl, (Below.refl _ _), rfl⟩
      · intro uF W hC' hU aF hF
        have hC : Below V5.heap.size V5 W := hC'
        clear hC'
        have h16 : (Det (.int .i64 (M : Int))) (uF 2) W := hU.1
        clear hU
        simp only [puts, Act.put, List.setIfInBounds_toArray, List.set_cons_zero, List.set_cons_succ] at hF
        generalize uF 2 = x16 at h16 hF
        obtain rfl : x16 = (.int .i64 (M : Int)) := h16
        subst hF
        go_wp2_with (fail)
        exact ⟨rfl, rfl, (Below.refl _ _), rfl⟩
      · intro uF W hC' hU aF hF
        have hC : Below V5.heap.size V5 W := hC'
        clear hC'
        simp only [puts] at hF
        subst hF
        go_wp2_with (fail)
        exact ⟨rfl, rfl, (Below.refl _ _), rfl⟩
      · intro uF W hC' hU aF hF
        have hC : Below V5.heap.size V5 W := hC'
        clear hC'
        have h18 : (Det (.pointer (some ⟨w.heap.size, 4, none⟩))) (uF 4) W := hU.1
        clear hU
        simp only [puts, Act.put, List.setIfInBounds_toArray, List.set_cons_zero, List.set_cons_succ] at hF
        generalize uF 4 = x18 at h18 hF
        obtain rfl : x18 = (.pointer (some ⟨w.heap.size, 4, none⟩)) := h18
        subst hF
        have d1 : W.cell? ⟨w.heap.size, 4, none⟩ = some (.slice A m c) := by rw [(HB1.out.below hC HB1.out.lt).cell]; rfl
        go_wp2_with (fail)
        exact ⟨rfl, rfl, (Below.refl _ _), ⟨_, _, rfl, (HD.out.below ((hw5.trans (hC.mono hz5)).mono hB)).more (Nat.le_trans hB (Nat.le_trans hz5 hC.size))⟩⟩
      · intro uF W hC' hU aF hF
        have hC : Below V5.heap.size V5 W := hC'
        clear hC'
        have h19 : (RelB m ds) (uF 5) W := hU.1
        clear hU
        simp only [puts, Act.put, List.setIfInBounds_toArray, List.set_cons_zero, List.set_cons_succ] at hF
        generalize uF 5 = x19 at h19 hF
        obtain ⟨A19, c19, rfl, s19⟩ := h19
        subst hF
        go_wp2_with (fail)
        exact ⟨rfl, rfl, (Below.refl _ _), rfl⟩
      · intro uF W hC' hU aF hF
        have hC : Below V5.heap.size V5 W := hC'
        clear hC'
        have h17 : (Det (.int .i64 ((M : Int) * 128))) (uF 3) W := hU.1
        have h20 : (Det (.int .i64 (m : Int))) (uF 6) W := hU.2.1
        clear hU
        simp only [puts, Act.put, List.setIfInBounds_toArray, List.set_cons_zero, List.set_cons_succ] at hF
        generalize uF 3 = x17 at h17 hF
        generalize uF 6 = x20 at h20 hF
        obtain rfl : x17 = (.int .i64 ((M : Int) * 128)) := h17
        obtain rfl : x20 = (.int .i64 (m : Int)) := h20
        subst hF
        go_wp2_with (fail)
        exact ⟨rfl, rfl, (Below.refl _ _), rfl⟩
      · intro uF W hC' hU aF hF
        have hC : Below V5.heap.size V5 W := hC'
        clear hC'
        have h21 : (Det (.int .i64 ((M : Int) * 128 - (m : Int)))) (uF 7) W := hU.1
        clear hU
        simp only [puts, Act.put, List.setIfInBounds_toArray, List.set_cons_zero, List.set_cons_succ] at hF
        generalize uF 7 = x21 at h21 hF
        obtain rfl : x21 = (.int .i64 ((M : Int) * 128 - (m : Int))) := h21
        subst hF
        go_wp2_with (fail)
        exact ⟨rfl, rfl, (Below.refl _ _), rfl⟩
      · intro uF W hC' hU aF hF
        have hC : Below V5.heap.size V5 W := hC'
        clear hC'
        have h22 : (Det (.int .i64 (0))) (uF 8) W := hU.1
        clear hU
        simp only [puts, Act.put, List.setIfInBounds_toArray, List.set_cons_zero, List.set_cons_succ] at hF
        generalize uF 8 = x22 at h22 hF
        obtain rfl : x22 = (.int .i64 (0)) := h22
        subst hF
        have hmk := run_make8 z z (0) (0) (by have := HZ.out; omega) (by have := HZ.out; omega) (Nat.le_refl _) (by have := HZ.out; omega) W
        go_wp2_with (fail)
        exact ⟨rfl, rfl, (below_alloc _ _), RelB.new _ (List.replicate z 0) z (by simp) (by have := HZ.out; simp [maxLen]; omega) (zeros8_list z)⟩
      · intro uF W hC' hU aF hF
        have hC : Below V5.heap.size V5 W := hC'
        clear hC'
        have h15 : (RelB m ds) (uF 1) W := hU.1
        have h23 : (RelB z (List.replicate z 0)) (uF 9) W := hU.2.1
        clear hU
        simp only [puts, Act.put, List.setIfInBounds_toArray, List.set_cons_zero, List.set_cons_succ] at hF
        generalize uF 1 = x15 at h15 hF
        generalize uF 9 = x23 at h23 hF
        obtain ⟨A15, c15, rfl, s15⟩ := h15
        obtain ⟨A23, c23, rfl, s23⟩ := h23
        subst hF
        go_wp2_with (fail)
        exact ⟨rfl, rfl, (below_alloc _ _), RelP.two s15 s23⟩
      · intro uF W hC' hU aF hF
        have hC : Below V5.heap.size V5 W := hC'
        clear hC'
        have h24 : (RelP 2 [ds, List.replicate z 0]) (uF 10) W := hU.1
        clear hU
        simp only [puts, Act.put, List.setIfInBounds_toArray, List.set_cons_zero, List.set_cons_succ] at hF
        generalize uF 10 = x24 at h24 hF
        subst hF
        go_wp2_with ((go_at_call 60; refine (concat_p h24 (ds ++ List.replicate z 0) (by simp) N (by have := HN.out; simp; omega) (by have := HN.out; have := HZ.out; omega)).mono ?_; rintro e W1 ⟨A1, c1, rfl, h1, hb⟩))
        exact ⟨rfl, rfl, hb, ⟨_, _, rfl, Row.base_le h1 (Nat.le_trans hz05 hC.size)⟩⟩
      · intro uF W hC' hU aF hF
        have hC : Below V5.heap.size V5 W := hC'
        clear hC'
        simp only [puts] at hF
        subst hF
        go_wp2_with (fail)
        exact ⟨rfl, rfl, (below_alloc _ _), ⟨_, rfl, Nat.le_trans hz05 hC.size, hC.size, Blk.new _ _ _⟩⟩
    intro uF W5 hC' hU aF hF
    have hCW5 : Below V5.heap.size V5 W5 := hC'
    clear hC'
    have h25 : (RelO (w.heap.size + 2) N (ds ++ List.replicate z 0)) (uF 11) W5 := hU.2.2.2.2.2.2.2.2.2.2.2.1
    have h4 : (RelW (w.heap.size + 2) V5.heap.size 22 #[.slice none 0 0]) (uF 12) W5 := hU.2.2.2.2.2.2.2.2.2.2.2.2.1
    clear hU
    simp only [List.take_succ_cons, List.take_zero, puts, Act.put, List.setIfInBounds_toArray, List.set_cons_zero, List.set_cons_succ] at hF
    generalize uF 0 = x14 at hF
    generalize uF 1 = x15 at hF
    generalize uF 2 = x16 at hF
    generalize uF 3 = x17 at hF
    generalize uF 4 = x18 at hF
    generalize uF 5 = x19 at hF
    generalize uF 6 = x20 at hF
    generalize uF 7 = x21 at hF
    generalize uF 8 = x22 at hF
    generalize uF 9 = x23 at hF
    generalize uF 10 = x24 at hF
    generalize uF 11 = x25 at h25 hF
    generalize uF 12 = x4 at h4 hF
    obtain ⟨A25, c25, rfl, s25⟩ := h25
    obtain ⟨g4, rfl, z4, y4, b4⟩ := h4
    subst hF
    simp only [List.drop_succ_cons, List.drop_zero]
    have k4 : W5.cell? ⟨g4, 0, none⟩ = some (.slice none 0 0) := by rw [b4.cell]; rfl
    have f4 := b4.frozen 0
    have hne : wrote A25 c25 ≠ some g4 := not_cell s25 b4
    have e4 : Blk (W5.setCell ⟨g4, 0, none⟩ (.slice A25 N c25)) g4 22 #[.slice A25 N c25] := by simpa using b4.set_ 0 (.slice A25 N c25)
    have e5 : OwB (W5.setCell ⟨g4, 0, none⟩ (.slice A25 N c25)) (w.heap.size + 2) A25 N c25 (ds ++ List.replicate z 0) := Row.keepRow s25 (grownBy_setCell _ g4 0 _) (.inr hne)
    have e6 : Below V5.heap.size V5 (W5.setCell ⟨g4, 0, none⟩ (.slice A25 N c25)) := hCW5.setCell (p := ⟨g4, 0, none⟩) (by show V5.heap.size ≤ g4; exact y4) _
    refine wpListIn_of free_wide (fun ⟨_, _, h⟩ => h) rfl ?_
    go_wp2_with fail
    exact ⟨g4, A25, c25, ⟨_, _, _, _, _, _, _, _, _, _, _, _, _, _, _, _, _, _, _, _, _, rfl⟩, z4, e4, e5, hne, e6⟩
  rintro e a' w6 h
  cases e with
  | normal =>
    obtain ⟨g4, A25, c25, ⟨y5, y6, y7, y8, y9, y10, y11, y12, y13, y14, y15, y16, y17, y18, y19, y20, y21, y22, y23, y24, y25, rfl⟩, z4, e4, e5, hne, e6⟩ := h
    have b16 := HB1.out.below e6 HB1.out.lt
    have b36 := HB3.out.below e6 HB3.out.lt
    have hw6 := hw5.trans (e6.mono hz5)
    go_wp2_with fail
    go_ret
    exact ⟨g4, A25, c25, rfl, z4, b16, b36, e4, e5, hne, hw6⟩
  | _ => exact h.elim

set_option maxHeartbeats 4000000 in
theorem blocks_yes_ge {w : World} {B : Nat} {A : Option Addr} {m c : Nat} {ds : List UInt8} (kind unit block many op who key new ty : Int) (st : Bool) (hd : SlB w B A m c ds) (hB : B ≤ w.heap.size) (hm : m ≤ 1000000) (M : Nat) (hM : (M : Int) = many) (hM2 : M ≤ 65536) (hmv : (kind == 1 || kind == 2) = true) (hck : ∀ v, Below w.heap.size w v → Calls Try.prog 31 #[.agg #[.int .i64 kind, .int .i64 unit, .int .i64 block, .int .i64 many, .slice A m c, .int .i64 op, .int .i64 who, .int .i64 key, .int .i64 new, .int .i64 ty, .bool st]] v fun e w' => e = .returned .nilIface ∧ Below v.heap.size v w') (z N : Nat) (hzz : z = 128 * M - m) (hN : N = m + z) (hge : 0 ≤ (M : Int) * 128 - (m : Int)) :
    Calls Try.prog 39 #[.agg #[.int .i64 kind, .int .i64 unit, .int .i64 block, .int .i64 many, .slice A m c, .int .i64 op, .int .i64 who, .int .i64 key, .int .i64 new, .int .i64 ty, .bool st]] w fun e w' => ∃ g4 A' c', e = .returned (.func (.func 61) #[] #[.pointer (some ⟨w.heap.size + 1, 0, none⟩), .pointer (some ⟨w.heap.size, 0, none⟩), .pointer (some ⟨g4, 0, none⟩)]) ∧ w.heap.size + 2 ≤ g4 ∧
      Blk w' w.heap.size 56 #[.int .i64 kind, .int .i64 unit, .int .i64 block, .int .i64 many, .slice A m c, .int .i64 op, .int .i64 who, .int .i64 key, .int .i64 new, .int .i64 ty, .bool st] ∧ Blk w' (w.heap.size + 1) 3 #[.int .i64 (M : Int)] ∧ Blk w' g4 22 #[.slice A' N c'] ∧ OwB w' (w.heap.size + 2) A' N c' (ds ++ List.replicate z 0) ∧ NotCell A' c' g4 ∧ Below w.heap.size w w' := by
  have hlen := hd.len
  have hmx := hd.mx
  obtain ⟨v, hv⟩ : ∃ v, v = (w.alloc (.cells #[.int .i64 kind, .int .i64 unit, .int .i64 block, .int .i64 many, .slice A m c, .int .i64 op, .int .i64 who, .int .i64 key, .int .i64 new, .int .i64 ty, .bool st] 56)).alloc (.cells #[.int .i64 0] 3) := ⟨_, rfl⟩
  have b1 : Blk v w.heap.size 56 #[.int .i64 kind, .int .i64 unit, .int .i64 block, .int .i64 many, .slice A m c, .int .i64 op, .int .i64 who, .int .i64 key, .int .i64 new, .int .i64 ty, .bool st] := by rw [hv]; exact (Blk.new w _ _).alloc _
  have b3 : Blk v (w.heap.size + 1) 3 #[.int .i64 0] := by
    have := Blk.new (w.alloc (.cells #[.int .i64 kind, .int .i64 unit, .int .i64 block, .int .i64 many, .slice A m c, .int .i64 op, .int .i64 who, .int .i64 key, .int .i64 new, .int .i64 ty, .bool st] 56)) 3 #[.int .i64 0]
    rw [World.size_alloc] at this
    rw [hv]; exact this
  have hbv : Below w.heap.size w v := by rw [hv]; exact ((Below.refl _ _).alloc (Nat.le_refl _) _).alloc (by simp) _
  have hz := hbv.size
  have hzv : w.heap.size + 2 ≤ v.heap.size := by have := b3.lt; omega
  have HV := Lib.hid hv
  have HD := Lib.hid hd
  clear hv hd
  go_enter Try.func39, Try.ntmps39
  go_wp2_with (first
    | ((with_reducible show wpList _ _ _ (Oper.mk (some 5) (Op.load 56 _) _ _ _ _ :: _) _ _); rw [← HV.out]; refine wpList_load_whole rfl 56 (.tmp 1) rfl w.heap.size rfl #[.int .i64 kind, .int .i64 unit, .int .i64 block, .int .i64 many, .slice A m c, .int .i64 op, .int .i64 who, .int .i64 key, .int .i64 new, .int .i64 ty, .bool st] aggCm rfl _ b1 ?_)
    | (go_at_call 58; refine (moves_c kind unit block many op who key new ty st v).mono ?_; rintro e w2 ⟨rfl, hb2⟩; rw [hmv]; have hw2 := hbv.trans (hb2.mono hz); have hz2 := hw2.size; have b12 := b1.below hb2 b1.lt; have b32 := b3.below hb2 b3.lt; have hz02 := hb2.size)
    | ((with_reducible show wpList _ _ _ (Oper.mk (some 8) (Op.load 56 _) _ _ _ _ :: _) _ _); refine wpList_load_whole rfl 56 (.tmp 1) rfl w.heap.size rfl #[.int .i64 kind, .int .i64 unit, .int .i64 block, .int .i64 many, .slice A m c, .int .i64 op, .int .i64 who, .int .i64 key, .int .i64 new, .int .i64 ty, .bool st] aggCm rfl _ b12 ?_)
    | (go_at_call 31; refine (hck w2 hw2).mono ?_; rintro e w4 ⟨rfl, hb4⟩; have hw4 := hw2.trans (hb4.mono hz2); have hz4 := hw4.size; have b14 := b12.below hb4 b12.lt; have b34 := b32.below hb4 b32.lt; have hz04 := Nat.le_trans hz02 hb4.size; have q3 : w4.cell? ⟨w.heap.size, 3, none⟩ = some (.int .i64 many) := (by rw [b14.cell]; rfl); have k3 : w4.cell? ⟨w.heap.size + 1, 0, none⟩ = some (.int .i64 0) := (by rw [b34.cell]; rfl); have f3 := b34.frozen 0))
  obtain ⟨V5, hV5⟩ : ∃ V5, V5 = w4.setCell ⟨w.heap.size + 1, 0, none⟩ (.int .i64 many) := ⟨_, rfl⟩
  rw [← hV5]
  have b15 : Blk V5 w.heap.size 56 #[.int .i64 kind, .int .i64 unit, .int .i64 block, .int .i64 many, .slice A m c, .int .i64 op, .int .i64 who, .int .i64 key, .int .i64 new, .int .i64 ty, .bool st] := by rw [hV5]; exact b14.far (by show w.heap.size ≠ w.heap.size + 1; omega) _
  have b35 : Blk V5 (w.heap.size + 1) 3 #[.int .i64 (M : Int)] := by rw [hV5, hM]; simpa using b34.set_ 0 (.int .i64 many)
  have hw5 : Below w.heap.size w V5 := by rw [hV5]; exact hw4.setCell (p := ⟨w.heap.size + 1, 0, none⟩) (by show w.heap.size ≤ w.heap.size + 1; omega) _
  have hz05 : w.heap.size + 2 ≤ V5.heap.size := by rw [hV5, World.size_setCell]; omega
  have hz5 := hw5.size
  have hMb : M ≤ 65536 := by omega
  have HM := Lib.hid hM
  have HB1 := Lib.hid b15
  have HB3 := Lib.hid b35
  have HZ := Lib.hid hzz
  have HN := Lib.hid hN
  clear hV5 b15 b35 hzz hN hM
  refine Code.wp_mono (Q := Exit.then (fun a' w' => ∃ g4 A' c', (∃ y5 y6 y7 y8 y9 y10 y11 y12 y13 y14 y15 y16 y17 y18 y19 y20 y21 y22 y23 y24 y25 : Value, a' = { tmps := #[.agg #[.int .i64 kind, .int .i64 unit, .int .i64 block, .int .i64 many, .slice A m c, .int .i64 op, .int .i64 who, .int .i64 key, .int .i64 new, .int .i64 ty, .bool st], .pointer (some ⟨w.heap.size, 0, none⟩), .nilFunc, .pointer (some ⟨w.heap.size + 1, 0, none⟩), .pointer (some ⟨g4, 0, none⟩), y5, y6, y7, y8, y9, y10, y11, y12, y13, y14, y15, y16, y17, y18, y19, y20, y21, y22, y23, y24, y25, undef], defers := [] }) ∧ w.heap.size + 2 ≤ g4 ∧ Blk w' g4 22 #[.slice A' N c'] ∧ OwB w' (w.heap.size + 2) A' N c' (ds ++ List.replicate z 0) ∧ NotCell A' c' g4 ∧ Below V5.heap.size V5 w') (fun _ _ _ => False)) ?_ ?_
  rotate_left
  · refine (wpIn_wide (n := 4)).1 ?_
    refine wpIn_region_rel free_wide rfl 13 (fun W W' => Below W.heap.size W W') (fun W => Below V5.heap.size V5 W)
      [Det (.pointer (some ⟨w.heap.size, 4, none⟩)), RelB m ds, Det (.int .i64 (M : Int)), Det (.int .i64 ((M : Int) * 128)), Det (.pointer (some ⟨w.heap.size, 4, none⟩)), RelB m ds, Det (.int .i64 (m : Int)), Det (.int .i64 ((M : Int) * 128 - (m : Int))), Det (.int .i64 ((M : Int) * 128 - (m : Int))), RelB z (List.replicate z 0), RelP 2 [ds, List.replicate z 0], RelO (w.heap.size + 2) N (ds ++ List.replicate z 0), RelW (w.heap.size + 2) V5.heap.size 22 #[.slice none 0 0], Any]
      [[], [(0, some 14)], [], [(2, some 16)], [], [(4, some 18)], [(5, some 19)], [(3, some 17), (6, some 20)], [(7, some 21)], [(8, some 22)], [(1, some 15), (9, some 23)], [(10, some 24)], [], [(12, some 4), (11, some 25)]]
      [[], [0], [], [2], [], [4], [4, 5], [2, 3, 4, 5, 6], [2, 3, 4, 5, 6, 7], [2, 3, 4, 5, 6, 7, 8], [0, 1, 2, 3, 4, 5, 6, 7, 8, 9], [0, 1, 2, 3, 4, 5, 6, 7, 8, 9, 10], [], [0, 1, 2, 3, 4, 5, 6, 7, 8, 9, 10, 11, 12]]
      [(0, some 14), (1, some 15), (2, some 16), (3, some 17), (4, some 18), (5, some 19), (6, some 20), (7, some 21), (8, some 22), (9, some 23), (10, some 24), (11, some 25), (12, some 4), (13, none)] (by kernel_rfl) (by kernel_rfl) (by kernel_rfl) (fun W W' h1 h2 => h1.trans (h2.mono h1.size)) ((Below.refl _ _).drew) ?_ ?_ ?_
    · exact (AllMono.cons Det.later (AllMono.cons RelB.later (AllMono.cons Det.later (AllMono.cons Det.later (AllMono.cons Det.later (AllMono.cons RelB.later (AllMono.cons Det.later (AllMono.cons Det.later (AllMono.cons Det.later (AllMono.cons RelB.later (AllMono.cons RelP.later (AllMono.cons RelO.later (AllMono.cons RelW.later (AllMono.cons Any.later AllMono.nil))))))))))))))
    · refine AllOb.cons ?_ (AllOb.cons ?_ (AllOb.cons ?_ (AllOb.cons ?_ (AllOb.cons ?_ (AllOb.cons ?_ (AllOb.cons ?_ (AllOb.cons ?_ (AllOb.cons ?_ (AllOb.cons ?_ (AllOb.cons ?_ (AllOb.cons ?_ (AllOb.cons ?_ (AllOb.nil)))))))))))))
      · intro uF W hC' hU aF hF
        have hC : Below V5.heap.size V5 W := hC'
        clear hC'
        simp only [puts] at hF
        subst hF
        go_wp2_with (fail)
        exact ⟨rfl, rfl, (Below.refl _ _), rfl⟩
      · intro uF W hC' hU aF hF
        have hC : Below V5.heap.size V5 W := hC'
        clear hC'
        have h14 : (Det (.pointer (some ⟨w.heap.size, 4, none⟩))) (uF 0) W := hU.1
        clear hU
        simp only [puts, Act.put, List.setIfInBounds_toArray, List.set_cons_zero, List.set_cons_succ] at hF
        generalize uF 0 = x14 at h14 hF
        obtain rfl : x14 = (.pointer (some ⟨w.heap.size, 4, none⟩)) := h14
        subst hF
        have d1 : W.cell? ⟨w.heap.size, 4, none⟩ = some (.slice A m c) := by rw [(HB1.out.below hC HB1.out.lt).cell]; rfl
        go_wp2_with (fail)
        exact ⟨rfl, rfl, (Below.refl _ _), ⟨_, _, rfl, (HD.out.below ((hw5.trans (hC.mono hz5)).mono hB)).more (Nat.le_trans hB (Nat.le_trans hz5 hC.size))⟩⟩
      · intro uF W hC' hU aF hF
        have hC : Below V5.heap.size V5 W := hC'
        clear hC'
        simp only [puts] at hF
        subst hF
        have d1 : W.cell? ⟨w.heap.size + 1, 0, none⟩ = some (.int .i64 (M : Int)) := by rw [(HB3.out.below hC HB3.out.lt).cell]; rfl
        go_wp2_with (fail)
        exact ⟨rfl, rfl, (Below.refl _ _), rfl⟩
      · intro uF W hC' hU aF hF
        have hC : Below V5.heap.size V5 W := hC'
        clear hC'
        have h16 : (Det (.int .i64 (M : Int))) (uF 2) W := hU.1
        clear hU
        simp only [puts, Act.put, List.setIfInBounds_toArray, List.set_cons_zero, List.set_cons_succ] at hF
        generalize uF 2 = x16 at h16 hF
        obtain rfl : x16 = (.int .i64 (M : Int)) := h16
        subst hF
        go_wp2_with (fail)
        exact ⟨rfl, rfl, (Below.refl _ _), rfl⟩
      · intro uF W hC' hU aF hF
        have hC : Below V5.heap.size V5 W := hC'
        clear hC'
        simp only [puts] at hF
        subst hF
        go_wp2_with (fail)
        exact ⟨rfl, rfl, (Below.refl _ _), rfl⟩
      · intro uF W hC' hU aF hF
        have hC : Below V5.heap.size V5 W := hC'
        clear hC'
        have h18 : (Det (.pointer (some ⟨w.heap.size, 4, none⟩))) (uF 4) W := hU.1
        clear hU
        simp only [puts, Act.put, List.setIfInBounds_toArray, List.set_cons_zero, List.set_cons_succ] at hF
        generalize uF 4 = x18 at h18 hF
        obtain rfl : x18 = (.pointer (some ⟨w.heap.size, 4, none⟩)) := h18
        subst hF
        have d1 : W.cell? ⟨w.heap.size, 4, none⟩ = some (.slice A m c) := by rw [(HB1.out.below hC HB1.out.lt).cell]; rfl
        go_wp2_with (fail)
        exact ⟨rfl, rfl, (Below.refl _ _), ⟨_, _, rfl, (HD.out.below ((hw5.trans (hC.mono hz5)).mono hB)).more (Nat.le_trans hB (Nat.le_trans hz5 hC.size))⟩⟩
      · intro uF W hC' hU aF hF
        have hC : Below V5.heap.size V5 W := hC'
        clear hC'
        have h19 : (RelB m ds) (uF 5) W := hU.1
        clear hU
        simp only [puts, Act.put, List.setIfInBounds_toArray, List.set_cons_zero, List.set_cons_succ] at hF
        generalize uF 5 = x19 at h19 hF
        obtain ⟨A19, c19, rfl, s19⟩ := h19
        subst hF
        go_wp2_with (fail)
        exact ⟨rfl, rfl, (Below.refl _ _), rfl⟩
      · intro uF W hC' hU aF hF
        have hC : Below V5.heap.size V5 W := hC'
        clear hC'
        have h17 : (Det (.int .i64 ((M : Int) * 128))) (uF 3) W := hU.1
        have h20 : (Det (.int .i64 (m : Int))) (uF 6) W := hU.2.1
        clear hU
        simp only [puts, Act.put, List.setIfInBounds_toArray, List.set_cons_zero, List.set_cons_succ] at hF
        generalize uF 3 = x17 at h17 hF
        generalize uF 6 = x20 at h20 hF
        obtain rfl : x17 = (.int .i64 ((M : Int) * 128)) := h17
        obtain rfl : x20 = (.int .i64 (m : Int)) := h20
        subst hF
        go_wp2_with (fail)
        exact ⟨rfl, rfl, (Below.refl _ _), rfl⟩
      · intro uF W hC' hU aF hF
        have hC : Below V5.heap.size V5 W := hC'
        clear hC'
        have h21 : (Det (.int .i64 ((M : Int) * 128 - (m : Int)))) (uF 7) W := hU.1
        clear hU
        simp only [puts, Act.put, List.setIfInBounds_toArray, List.set_cons_zero, List.set_cons_succ] at hF
        generalize uF 7 = x21 at h21 hF
        obtain rfl : x21 = (.int .i64 ((M : Int) * 128 - (m : Int))) := h21
        subst hF
        go_wp2_with (fail)
        exact ⟨rfl, rfl, (Below.refl _ _), rfl⟩
      · intro uF W hC' hU aF hF
        have hC : Below V5.heap.size V5 W := hC'
        clear hC'
        have h22 : (Det (.int .i64 ((M : Int) * 128 - (m : Int)))) (uF 8) W := hU.1
        clear hU
        simp only [puts, Act.put, List.setIfInBounds_toArray, List.set_cons_zero, List.set_cons_succ] at hF
        generalize uF 8 = x22 at h22 hF
        obtain rfl : x22 = (.int .i64 ((M : Int) * 128 - (m : Int))) := h22
        subst hF
        have hmk := run_make8 z z ((M : Int) * 128 - (m : Int)) ((M : Int) * 128 - (m : Int)) (by have := HZ.out; omega) (by have := HZ.out; omega) (Nat.le_refl _) (by have := HZ.out; omega) W
        go_wp2_with (fail)
        exact ⟨rfl, rfl, (below_alloc _ _), RelB.new _ (List.replicate z 0) z (by simp) (by have := HZ.out; simp [maxLen]; omega) (zeros8_list z)⟩
      · intro uF W hC' hU aF hF
        have hC : Below V5.heap.size V5 W := hC'
        clear hC'
        have h15 : (RelB m ds) (uF 1) W := hU.1
        have h23 : (RelB z (List.replicate z 0)) (uF 9) W := hU.2.1
        clear hU
        simp only [puts, Act.put, List.setIfInBounds_toArray, List.set_cons_zero, List.set_cons_succ] at hF
        generalize uF 1 = x15 at h15 hF
        generalize uF 9 = x23 at h23 hF
        obtain ⟨A15, c15, rfl, s15⟩ := h15
        obtain ⟨A23, c23, rfl, s23⟩ := h23
        subst hF
        go_wp2_with (fail)
        exact ⟨rfl, rfl, (below_alloc _ _), RelP.two s15 s23⟩
      · intro uF W hC' hU aF hF
        have hC : Below V5.heap.size V5 W := hC'
        clear hC'
        have h24 : (RelP 2 [ds, List.replicate z 0]) (uF 10) W := hU.1
        clear hU
        simp only [puts, Act.put, List.setIfInBounds_toArray, List.set_cons_zero, List.set_cons_succ] at hF
        generalize uF 10 = x24 at h24 hF
        subst hF
        go_wp2_with ((go_at_call 60; refine (concat_p h24 (ds ++ List.replicate z 0) (by simp) N (by have := HN.out; simp; omega) (by have := HN.out; have := HZ.out; omega)).mono ?_; rintro e W1 ⟨A1, c1, rfl, h1, hb⟩))
        exact ⟨rfl, rfl, hb, ⟨_, _, rfl, Row.base_le h1 (Nat.le_trans hz05 hC.size)⟩⟩
      · intro uF W hC' hU aF hF
        have hC : Below V5.heap.size V5 W := hC'
        clear hC'
        simp only [puts] at hF
        subst hF
        go_wp2_with (fail)
        exact ⟨rfl, rfl, (below_alloc _ _), ⟨_, rfl, Nat.le_trans hz05 hC.size, hC.size, Blk.new _ _ _⟩⟩
    intro uF W5 hC' hU aF hF
    have hCW5 : Below V5.heap.size V5 W5 := hC'
    clear hC'
    have h25 : (RelO (w.heap.size + 2) N (ds ++ List.replicate z 0)) (uF 11) W5 := hU.2.2.2.2.2.2.2.2.2.2.2.1
    have h4 : (RelW (w.heap.size + 2) V5.heap.size 22 #[.slice none 0 0]) (uF 12) W5 := hU.2.2.2.2.2.2.2.2.2.2.2.2.1
    clear hU
    simp only [List.take_succ_cons, List.take_zero, puts, Act.put, List.setIfInBounds_toArray, List.set_cons_zero, List.set_cons_succ] at hF
    generalize uF 0 = x14 at hF
    generalize uF 1 = x15 at hF
    generalize uF 2 = x16 at hF
    generalize uF 3 = x17 at hF
    generalize uF 4 = x18 at hF
    generalize uF 5 = x19 at hF
    generalize uF 6 = x20 at hF
    generalize uF 7 = x21 at hF
    generalize uF 8 = x22 at hF
    generalize uF 9 = x23 at hF
    generalize uF 10 = x24 at hF
    generalize uF 11 = x25 at h25 hF
    generalize uF 12 = x4 at h4 hF
    obtain ⟨A25, c25, rfl, s25⟩ := h25
    obtain ⟨g4, rfl, z4, y4, b4⟩ := h4
    subst hF
    simp only [List.drop_succ_cons, List.drop_zero]
    have k4 : W5.cell? ⟨g4, 0, none⟩ = some (.slice none 0 0) := by rw [b4.cell]; rfl
    have f4 := b4.frozen 0
    have hne : wrote A25 c25 ≠ some g4 := not_cell s25 b4
    have e4 : Blk (W5.setCell ⟨g4, 0, none⟩ (.slice A25 N c25)) g4 22 #[.slice A25 N c25] := by simpa using b4.set_ 0 (.slice A25 N c25)
    have e5 : OwB (W5.setCell ⟨g4, 0, none⟩ (.slice A25 N c25)) (w.heap.size + 2) A25 N c25 (ds ++ List.replicate z 0) := Row.keepRow s25 (grownBy_setCell _ g4 0 _) (.inr hne)
    have e6 : Below V5.heap.size V5 (W5.setCell ⟨g4, 0, none⟩ (.slice A25 N c25)) := hCW5.setCell (p := ⟨g4, 0, none⟩) (by show V5.heap.size ≤ g4; exact y4) _
    refine wpListIn_of free_wide (fun ⟨_, _, h⟩ => h) rfl ?_
    go_wp2_with fail
    exact ⟨g4, A25, c25, ⟨_, _, _, _, _, _, _, _, _, _, _, _, _, _, _, _, _, _, _, _, _, rfl⟩, z4, e4, e5, hne, e6⟩
  rintro e a' w6 h
  cases e with
  | normal =>
    obtain ⟨g4, A25, c25, ⟨y5, y6, y7, y8, y9, y10, y11, y12, y13, y14, y15, y16, y17, y18, y19, y20, y21, y22, y23, y24, y25, rfl⟩, z4, e4, e5, hne, e6⟩ := h
    have b16 := HB1.out.below e6 HB1.out.lt
    have b36 := HB3.out.below e6 HB3.out.lt
    have hw6 := hw5.trans (e6.mono hz5)
    go_wp2_with fail
    go_ret
    exact ⟨g4, A25, c25, rfl, z4, b16, b36, e4, e5, hne, hw6⟩
  | _ => exact h.elim

end Go.Proofs.Ytjjpifppdjpcnaa

