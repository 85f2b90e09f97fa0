/-
  PduEncodes: which bytes every frame has.
-/
import Derived.Test.YtjjpifppdjpcnaaPduRef
import Derived.Test.YtjjpifppdjpcnaaErr
import Derived.Test.YtjjpifppdjpcnaaApart
import Derived.Test.YtjjpifppdjpcnaaOver
namespace Go.Proofs.Ytjjpifppdjpcnaa.pduEncodes
open Go.RowKit
set_option linter.unusedVariables false
set_option linter.unusedSimpArgs false
set_option maxRecDepth 100000

theorem copy_own {w : World} {base g n : Nat} {bs : List UInt8} (h : OwB w base (some ⟨g, 0, none⟩) (n + 2) (n + 2) (bs ++ [0xa5, 0x5a])) (hl : bs.length = n) : OwB w base (some ⟨g, 0, none⟩) n (n + 2) bs := by
  have := h.trim (k := n) (by omega)
  rwa [List.take_left' hl] at this
theorem own_lt {w : World} {base g n c : Nat} {bs : List UInt8} (h : OwB w base (some ⟨g, 0, none⟩) n c bs) (hc : 0 < c) : g < w.heap.size := by
  obtain ⟨g', cur, e, _, hb, _⟩ := h.2.2.2 hc
  simp only [Option.some.injEq, Addr.mk.injEq, and_true] at e
  subst e
  exact hb.lt
theorem aggFr : AggT Try.prog 24 4 := ⟨⟨_, Try.underlying24, rfl⟩, by kernel_rfl⟩
theorem zeroFr : (Try.prog.info? 24).bind (·.zero) = some (.agg #[.int .i64 0, .int .i64 0, .int .i64 0, .slice none 0 0]) := by kernel_rfl

set_option maxHeartbeats 2000000 in
theorem walk (cs0 : List Value) (w : World) (R0 : Rds w (.cons (.int .i64) (.cons (.int .i64) (.cons (.int .i64) (.cons (.slice (.int .u8) 1 1) .nil)))) cs0) :
    Calls Try.prog 3 #[.agg cs0.toArray] w fun e w' => e = .returned (.bool true) ∧ Below w.heap.size w w' := by
  obtain ⟨_, _, rfl, r0, _, _, rfl, r1, _, _, rfl, r2, _, _, rfl, r3, rfl⟩ := R0
  obtain ⟨kind, rfl, hx0⟩ := r0
  obtain ⟨n, rfl, hx1⟩ := r1
  obtain ⟨code, rfl, hx2⟩ := r2
  obtain ⟨A, m, c, ds, rfl, w3, y3⟩ := Rds.bytes r3
  clear r3
  simp only [List.cons_append, List.nil_append, List.append_nil]
  have hmx := w3.mx
  have hmc := w3.le
  obtain ⟨g1, hg1⟩ : ∃ g, g = w.heap.size := ⟨_, rfl⟩
  obtain ⟨v, hv⟩ : ∃ v, v = w.alloc (.cells #[.int .i64 kind, .int .i64 n, .int .i64 code, .slice A m c] 24) := ⟨_, rfl⟩
  have b1 : Blk v g1 24 #[.int .i64 kind, .int .i64 n, .int .i64 code, .slice A m c] := by rw [hv, hg1]; exact Blk.new _ _ _
  have hbv : Below w.heap.size w v := by rw [hv]; exact below_alloc _ _
  have hz := hbv.size
  have hgv := b1.lt
  have HD := Lib.hid (w3.below hbv)
  have HV := Lib.hid hv
  have HG := Lib.hid hg1
  have HB1 := Lib.hid b1
  clear hv hg1 w3 b1
  go_enter Try.func3, Try.ntmps3
  go_wp2_with (go_at_call 13; rw [← HV.out, ← HG.out]; refine (encode_ok (m := 0) 7 0 10 (SlB.nil v 0 none) (Nat.zero_le _) okF_ten).mono ?_; rintro e w1 ⟨A1, c1, rfl, ho1, hb1⟩; rw [frB_ten] at ho1; have hz1 := hb1.size)
  refine wp_region_rel (fun W W' => Below W.heap.size W W') (fun W => Below w1.heap.size w1 W)
    [Det (.nilIface), Det (.bool false), Det (.bool false), Det (.slice A1 8 c1), Det (.string ⟨#[7, 0, 0, 0, 0, 10, 0, 0]⟩), Det (.string ⟨#[7, 0, 0, 0, 0, 10, 0, 0]⟩), Det (.bool false), Det (.bool false)]
    [[], [(0, some 15)], [(1, some 16)], [(2, some 17)], [(3, some 18), (2, some 17)], [(2, some 17)], [(4, some 19), (5, some 20), (2, some 17)], [(2, some 17), (6, some 21)]]
    [[], [0], [0, 1], [0, 1, 2], [0, 1, 2, 3], [0, 1, 2], [0, 1, 2, 3, 4, 5], [0, 1, 2, 3, 4, 5, 6]]
    [(0, some 15), (1, some 16), (2, some 17), (3, some 18), (4, some 19), (5, some 20), (6, some 21), (7, some 22)] (by kernel_rfl) (by kernel_rfl) (fun W W' h1 h2 => h1.trans (h2.mono h1.size)) ((Below.refl _ _).drew) ?_ ?_ ?_
  · exact (AllMono.cons Det.later (AllMono.cons Det.later (AllMono.cons Det.later (AllMono.cons Det.later (AllMono.cons Det.later (AllMono.cons Det.later (AllMono.cons Det.later (AllMono.cons Det.later AllMono.nil))))))))
  · refine AllOb.cons ?_ (AllOb.cons ?_ (AllOb.cons ?_ (AllOb.cons ?_ (AllOb.cons ?_ (AllOb.cons ?_ (AllOb.cons ?_ (AllOb.cons ?_ (AllOb.nil))))))))
    · intro uF W hC' hU aF hF
      have hC : Below w1.heap.size w1 W := hC'
      clear hC'
      simp only [puts] at hF
      subst hF
      go_wp2_with (fail)
      exact ⟨rfl, rfl, (Below.refl _ _), rfl⟩
    · intro uF W hC' hU aF hF
      have hC : Below w1.heap.size w1 W := hC'
      clear hC'
      have h15 : (Det (.nilIface)) (uF 0) W := hU.1
      clear hU
      simp only [puts, Act.put, List.setIfInBounds_toArray, List.set_cons_zero, List.set_cons_succ] at hF
      generalize uF 0 = x15 at h15 hF
      obtain rfl : x15 = (.nilIface) := h15
      subst hF
      go_wp2_with (fail)
      exact ⟨rfl, rfl, (Below.refl _ _), rfl⟩
    · intro uF W hC' hU aF hF
      have hC : Below w1.heap.size w1 W := hC'
      clear hC'
      have h16 : (Det (.bool false)) (uF 1) W := hU.1
      clear hU
      simp only [puts, Act.put, List.setIfInBounds_toArray, List.set_cons_zero, List.set_cons_succ] at hF
      generalize uF 1 = x16 at h16 hF
      obtain rfl : x16 = (.bool false) := h16
      subst hF
      go_wp2_with (fail)
      exact ⟨rfl, rfl, (Below.refl _ _), rfl⟩
    · intro uF W hC' hU aF hF
      have hC : Below w1.heap.size w1 W := hC'
      clear hC'
      have h17 : (Det (.bool false)) (uF 2) W := hU.1
      clear hU
      simp only [puts, Act.put, List.setIfInBounds_toArray, List.set_cons_zero, List.set_cons_succ] at hF
      generalize uF 2 = x17 at h17 hF
      obtain rfl : x17 = (.bool false) := h17
      subst hF
      go_wp2_with (fail)
      exact ⟨rfl, rfl, (Below.refl _ _), rfl⟩
    · intro uF W hC' hU aF hF
      have hC : Below w1.heap.size w1 W := hC'
      clear hC'
      have h18 : (Det (.slice A1 8 c1)) (uF 3) W := hU.1
      have h17 : (Det (.bool false)) (uF 2) W := hU.2.1
      clear hU
      simp only [puts, Act.put, List.setIfInBounds_toArray, List.set_cons_zero, List.set_cons_succ] at hF
      generalize uF 3 = x18 at h18 hF
      generalize uF 2 = x17 at h17 hF
      obtain rfl : x18 = (.slice A1 8 c1) := h18
      obtain rfl : x17 = (.bool false) := h17
      subst hF
      have e19 := (OwB.sl (ho1.below hC)).str
      go_wp2_with (fail)
      exact ⟨rfl, rfl, (Below.refl _ _), rfl⟩
    · intro uF W hC' hU aF hF
      have hC : Below w1.heap.size w1 W := hC'
      clear hC'
      have h17 : (Det (.bool false)) (uF 2) W := hU.1
      clear hU
      simp only [puts, Act.put, List.setIfInBounds_toArray, List.set_cons_zero, List.set_cons_succ] at hF
      generalize uF 2 = x17 at h17 hF
      obtain rfl : x17 = (.bool false) := h17
      subst hF
      go_wp2_with ((go_at_call 14; refine (ten_c _).mono ?_; rintro e W1 ⟨rfl, rfl⟩))
      exact ⟨rfl, rfl, (Below.refl _ _), rfl⟩
    · intro uF W hC' hU aF hF
      have hC : Below w1.heap.size w1 W := hC'
      clear hC'
      have h19 : (Det (.string ⟨#[7, 0, 0, 0, 0, 10, 0, 0]⟩)) (uF 4) W := hU.1
      have h20 : (Det (.string ⟨#[7, 0, 0, 0, 0, 10, 0, 0]⟩)) (uF 5) W := hU.2.1
      have h17 : (Det (.bool false)) (uF 2) W := hU.2.2.1
      clear hU
      simp only [puts, Act.put, List.setIfInBounds_toArray, List.set_cons_zero, List.set_cons_succ] at hF
      generalize uF 4 = x19 at h19 hF
      generalize uF 5 = x20 at h20 hF
      generalize uF 2 = x17 at h17 hF
      obtain rfl : x19 = (.string ⟨#[7, 0, 0, 0, 0, 10, 0, 0]⟩) := h19
      obtain rfl : x20 = (.string ⟨#[7, 0, 0, 0, 0, 10, 0, 0]⟩) := h20
      obtain rfl : x17 = (.bool false) := h17
      subst hF
      go_wp2_with (fail)
      exact ⟨rfl, rfl, (Below.refl _ _), rfl⟩
    · intro uF W hC' hU aF hF
      have hC : Below w1.heap.size w1 W := hC'
      clear hC'
      have h17 : (Det (.bool false)) (uF 2) W := hU.1
      have h21 : (Det (.bool false)) (uF 6) W := hU.2.1
      clear hU
      simp only [puts, Act.put, List.setIfInBounds_toArray, List.set_cons_zero, List.set_cons_succ] at hF
      generalize uF 2 = x17 at h17 hF
      generalize uF 6 = x21 at h21 hF
      obtain rfl : x17 = (.bool false) := h17
      obtain rfl : x21 = (.bool false) := h21
      subst hF
      go_wp2_with (fail)
      exact ⟨rfl, rfl, (Below.refl _ _), rfl⟩
  intro uF w2 hC' hU aF hF
  have hCw2 : Below w1.heap.size w1 w2 := hC'
  clear hC'
  have h22 : (Det (.bool false)) (uF 7) w2 := hU.2.2.2.2.2.2.2.1
  clear hU
  simp only [puts, Act.put, List.setIfInBounds_toArray, List.set_cons_zero, List.set_cons_succ] at hF
  generalize uF 0 = x15 at hF
  generalize uF 1 = x16 at hF
  generalize uF 2 = x17 at hF
  generalize uF 3 = x18 at hF
  generalize uF 4 = x19 at hF
  generalize uF 5 = x20 at hF
  generalize uF 6 = x21 at hF
  generalize uF 7 = x22 at h22 hF
  obtain rfl : x22 = (.bool false) := h22
  subst hF
  have hv2 := hb1.trans (hCw2.mono hz1)
  have hz2 := hv2.size
  have HB2 := Lib.hid (HB1.out.below hv2 hgv)
  have hbw2 := hbv.trans (hv2.mono hz)
  have d3 : w2.cell? ⟨g1, 3, none⟩ = some (.slice A m c) := by rw [HB2.out.cell]; rfl
  by_cases hbig : 16384 < m
  · have hbi : (16384 : Int) < (m : Int) := by omega
    go_wp2_with fail
    go_ret
    exact ⟨rfl, hbw2⟩
  have hbi : ¬ (16384 : Int) < (m : Int) := by omega
  have bn := Blk.new w2 24 #[.int .i64 0, .int .i64 0, .int .i64 0, .slice none 0 0]
  by_cases hok : okF kind n code m
  · have hm4 : m ≤ 4096 := hok.2.2.2.2.2.2
    go_wp2_with (first
      | ((with_reducible show wpList _ _ _ (Oper.mk (some 27) (Op.load 24 (.tmp 1)) _ _ _ _ :: _) _ _); refine wpList_load_whole rfl 24 (.tmp 1) rfl g1 rfl #[.int .i64 kind, .int .i64 n, .int .i64 code, .slice A m c] aggFr rfl _ HB2.out ?_)
      | ((with_reducible show wpList _ _ _ (Oper.mk _ (Op.alloc 24) _ _ _ _ :: _) _ _); refine wpList_alloc_agg rfl 24 rfl #[.int .i64 0, .int .i64 0, .int .i64 0, .slice none 0 0] zeroFr ?_)
      | ((with_reducible show wpList _ _ _ (Oper.mk none (Op.store 24 _ _) _ _ _ _ :: _) _ _); refine wpList_store_whole rfl 24 (.tmp 5) (.tmp 27) rfl w2.heap.size rfl [.int .i64 kind, .int .i64 n, .int .i64 code, .slice A m c] rfl aggFr rfl _ _ bn rfl (by simp [Value.oneCell']) ?_; intro v3 b3 gb sb; have h23 : Below w2.heap.size w2 v3 := (below_alloc _ _).grown gb (by simp) (fun k hk => by cases hk; exact Nat.le_refl _); have hv3 := hv2.trans (h23.mono hz2); have hz3 := hv3.size; have e13 : v3.cell? ⟨g1, 3, none⟩ = some (.slice A m c) := (by rw [(HB1.out.below hv3 hgv).cell]; rfl); have hg53 := b3.lt; clear gb sb)
      | (go_at_call 15; refine (copy_c (HD.out.below (hv3.mono hz)) (Nat.le_trans hz hz3) (by omega)).mono ?_; rintro e w4 ⟨rfl, hoc, hb4⟩; have b4 := b3.below hb4 b3.lt; have k4 : w4.cell? ⟨w2.heap.size, 3, none⟩ = some (.slice A m c) := (by rw [b4.cell]; rfl); have f4 := b4.frozen 3; have hv4 := hv3.trans (hb4.mono hz3); obtain ⟨V5, hV5⟩ : ∃ V5, V5 = w4.setCell ⟨w2.heap.size, 3, none⟩ (.slice (some ⟨v3.heap.size, 0, none⟩) m (m + 2)) := ⟨_, rfl⟩; have b5 : Blk V5 w2.heap.size 24 #[.int .i64 kind, .int .i64 n, .int .i64 code, .slice (some ⟨v3.heap.size, 0, none⟩) m (m + 2)] := (by rw [hV5]; simpa using b4.set_ 3 (.slice (some ⟨v3.heap.size, 0, none⟩) m (m + 2))); have hom5 : OwB V5 v3.heap.size (some ⟨v3.heap.size, 0, none⟩) (m + 2) (m + 2) (ds ++ [0xa5, 0x5a]) := (by rw [hV5]; exact Row.keepRow hoc (grownBy_setCell _ w2.heap.size 3 _) (.inr (by simp [wrote]; omega))); have hv5 : Below v.heap.size v V5 := (by rw [hV5]; exact hv4.setCell (p := ⟨w2.heap.size, 3, none⟩) hz2 _); have hz5 := hv5.size; have HOC := Lib.hid (copy_own hom5 HD.out.len); have hcb : v3.heap.size < V5.heap.size := own_lt hom5 (by omega))
      | ((with_reducible show wpList _ _ _ (Oper.mk (some 33) (Op.load 24 (.tmp 5)) _ _ _ _ :: _) _ _); rw [← hV5]; refine wpList_load_whole rfl 24 (.tmp 5) rfl w2.heap.size rfl #[.int .i64 kind, .int .i64 n, .int .i64 code, .slice (some ⟨v3.heap.size, 0, none⟩) m (m + 2)] aggFr rfl _ b5 ?_)
      | (go_at_call 13; rw [← hV5]; refine (encode_ok kind n code HOC.out.sl (Nat.le_refl _) hok).mono ?_; rintro e w6 ⟨A6, c6, rfl, ho6, hb6⟩; have hv6 := hv5.trans (hb6.mono hz5); have hz6 := hv6.size; have b16 := HB1.out.below hv6 hgv; have hd6 := HD.out.below (hv6.mono hz))
      | ((with_reducible show wpList _ _ _ (Oper.mk (some 38) (Op.load 24 (.tmp 1)) _ _ _ _ :: _) _ _); refine wpList_load_whole rfl 24 (.tmp 1) rfl g1 rfl #[.int .i64 kind, .int .i64 n, .int .i64 code, .slice A m c] aggFr rfl _ b16 ?_)
      | (go_at_call 16; refine (refencode_ok kind n code hd6 (Nat.le_trans hz hz6) hok).mono ?_; rintro e w7 ⟨A7, c7, rfl, ho7, hb7⟩; have hv7 := hv6.trans (hb7.mono hz6); have hz7 := hv7.size; have ho67 := OwB.below ho6 hb7; have e57 : w7.cell? ⟨w2.heap.size, 3, none⟩ = some (.slice (some ⟨v3.heap.size, 0, none⟩) m (m + 2)) := (by rw [((b5.below hb6 b5.lt).below hb7 (Nat.lt_of_lt_of_le b5.lt hb6.size)).cell]; rfl); have e17 : w7.cell? ⟨g1, 3, none⟩ = some (.slice A m c) := (by rw [(HB1.out.below hv7 hgv).cell]; rfl); have hom7 := OwB.below (OwB.below hom5 hb6) hb7; have hoc7 := OwB.below (OwB.below HOC.out hb6) hb7)
      | (go_at_call 17; refine (same_c ho67.sl ho7.sl true (by simp)).mono ?_; rintro e w' ⟨rfl, rfl⟩)
      | (go_at_call 19; refine (kept_c hom7.sl (HD.out.below (hv7.mono hz)) (by omega)).mono ?_; rintro e w' ⟨rfl, rfl⟩)
      | (go_at_call 20; refine (apart2_c (base := w.heap.size) (Row.base_le ho67 (Nat.le_trans hz hz5)) (Row.base_le hoc7 (Nat.le_trans hz hz3)) (by omega) (by omega) (Nat.le_trans hz hz7) (far_of_base ho67 (fun g hg => by simp [wrote] at hg; subst hg; omega))).mono ?_; rintro e w8 ⟨rfl, hb8⟩))
    go_ret
    exact ⟨rfl, ((hbv.trans (hv7.mono hz)).alloc (Nat.le_trans hz hz7) _).trans hb8⟩
  · go_wp2_with (first
      | ((with_reducible show wpList _ _ _ (Oper.mk (some 27) (Op.load 24 (.tmp 1)) _ _ _ _ :: _) _ _); refine wpList_load_whole rfl 24 (.tmp 1) rfl g1 rfl #[.int .i64 kind, .int .i64 n, .int .i64 code, .slice A m c] aggFr rfl _ HB2.out ?_)
      | ((with_reducible show wpList _ _ _ (Oper.mk _ (Op.alloc 24) _ _ _ _ :: _) _ _); refine wpList_alloc_agg rfl 24 rfl #[.int .i64 0, .int .i64 0, .int .i64 0, .slice none 0 0] zeroFr ?_)
      | ((with_reducible show wpList _ _ _ (Oper.mk none (Op.store 24 _ _) _ _ _ _ :: _) _ _); refine wpList_store_whole rfl 24 (.tmp 5) (.tmp 27) rfl w2.heap.size rfl [.int .i64 kind, .int .i64 n, .int .i64 code, .slice A m c] rfl aggFr rfl _ _ bn rfl (by simp [Value.oneCell']) ?_; intro v3 b3 gb sb; have h23 : Below w2.heap.size w2 v3 := (below_alloc _ _).grown gb (by simp) (fun k hk => by cases hk; exact Nat.le_refl _); have hv3 := hv2.trans (h23.mono hz2); have hz3 := hv3.size; have e13 : v3.cell? ⟨g1, 3, none⟩ = some (.slice A m c) := (by rw [(HB1.out.below hv3 hgv).cell]; rfl); have hg53 := b3.lt; clear gb sb)
      | (go_at_call 15; refine (copy_c (HD.out.below (hv3.mono hz)) (Nat.le_trans hz hz3) (by omega)).mono ?_; rintro e w4 ⟨rfl, hoc, hb4⟩; have b4 := b3.below hb4 b3.lt; have k4 : w4.cell? ⟨w2.heap.size, 3, none⟩ = some (.slice A m c) := (by rw [b4.cell]; rfl); have f4 := b4.frozen 3; have hv4 := hv3.trans (hb4.mono hz3); obtain ⟨V5, hV5⟩ : ∃ V5, V5 = w4.setCell ⟨w2.heap.size, 3, none⟩ (.slice (some ⟨v3.heap.size, 0, none⟩) m (m + 2)) := ⟨_, rfl⟩; have b5 : Blk V5 w2.heap.size 24 #[.int .i64 kind, .int .i64 n, .int .i64 code, .slice (some ⟨v3.heap.size, 0, none⟩) m (m + 2)] := (by rw [hV5]; simpa using b4.set_ 3 (.slice (some ⟨v3.heap.size, 0, none⟩) m (m + 2))); have hom5 : OwB V5 v3.heap.size (some ⟨v3.heap.size, 0, none⟩) (m + 2) (m + 2) (ds ++ [0xa5, 0x5a]) := (by rw [hV5]; exact Row.keepRow hoc (grownBy_setCell _ w2.heap.size 3 _) (.inr (by simp [wrote]; omega))); have hv5 : Below v.heap.size v V5 := (by rw [hV5]; exact hv4.setCell (p := ⟨w2.heap.size, 3, none⟩) hz2 _); have hz5 := hv5.size; have HOC := Lib.hid (copy_own hom5 HD.out.len); have hcb : v3.heap.size < V5.heap.size := own_lt hom5 (by omega))
      | ((with_reducible show wpList _ _ _ (Oper.mk (some 33) (Op.load 24 (.tmp 5)) _ _ _ _ :: _) _ _); rw [← hV5]; refine wpList_load_whole rfl 24 (.tmp 5) rfl w2.heap.size rfl #[.int .i64 kind, .int .i64 n, .int .i64 code, .slice (some ⟨v3.heap.size, 0, none⟩) m (m + 2)] aggFr rfl _ b5 ?_)
      | (go_at_call 13; rw [← hV5]; refine (encode_bad kind n code HOC.out.sl (Nat.le_refl _) hok).mono ?_; rintro e w6 ⟨rfl, hb6⟩; have hv6 := hv5.trans (hb6.mono hz5); have hz6 := hv6.size; have b16 := HB1.out.below hv6 hgv; have hd6 := HD.out.below (hv6.mono hz))
      | ((with_reducible show wpList _ _ _ (Oper.mk (some 38) (Op.load 24 (.tmp 1)) _ _ _ _ :: _) _ _); refine wpList_load_whole rfl 24 (.tmp 1) rfl g1 rfl #[.int .i64 kind, .int .i64 n, .int .i64 code, .slice A m c] aggFr rfl _ b16 ?_)
      | (go_at_call 16; refine (refencode_bad kind n code hmx hok).mono ?_; rintro e w7 ⟨rfl, hb7⟩; have hv7 := hv6.trans (hb7.mono hz6); have hz7 := hv7.size; have e57 : w7.cell? ⟨w2.heap.size, 3, none⟩ = some (.slice (some ⟨v3.heap.size, 0, none⟩) m (m + 2)) := (by rw [((b5.below hb6 b5.lt).below hb7 (Nat.lt_of_lt_of_le b5.lt hb6.size)).cell]; rfl); have e17 : w7.cell? ⟨g1, 3, none⟩ = some (.slice A m c) := (by rw [(HB1.out.below hv7 hgv).cell]; rfl); have hom7 := OwB.below (OwB.below hom5 hb6) hb7; have hoc7 := OwB.below (OwB.below HOC.out hb6) hb7)
      | (go_at_call 17; refine (same_c (SlB.nil _ 0 none) (SlB.nil _ 0 none) true (by simp)).mono ?_; rintro e w' ⟨rfl, rfl⟩)
      | (go_at_call 18; refine (is_err 10 10 rfl true rfl _).mono ?_; rintro e w' ⟨rfl, rfl⟩)
      | (go_at_call 19; refine (kept_c hom7.sl (HD.out.below (hv7.mono hz)) (by omega)).mono ?_; rintro e w' ⟨rfl, rfl⟩)
      | (go_at_call 20; refine (apart2_c (base := w.heap.size) (OwB.nil _ _ none) (Row.base_le hoc7 (Nat.le_trans hz hz3)) (by omega) (by omega) (Nat.le_trans hz hz7) ((.inl (by simp [wrote])))).mono ?_; rintro e w8 ⟨rfl, hb8⟩))
    go_ret
    exact ⟨rfl, ((hbv.trans (hv7.mono hz)).alloc (Nat.le_trans hz hz7) _).trans hb8⟩
end Go.Proofs.Ytjjpifppdjpcnaa.pduEncodes

