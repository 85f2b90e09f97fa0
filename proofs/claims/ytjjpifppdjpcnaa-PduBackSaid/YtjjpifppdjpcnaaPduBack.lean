/-
  PduBack: a frame comes back from its bytes, no other bytes are decoded to it, and no beginning of them is a frame (printed by wip/gen_back.py).
-/
import Derived.Test.YtjjpifppdjpcnaaPduBackC
namespace Go.Proofs.Ytjjpifppdjpcnaa.pduBack
open Go.RowKit
set_option linter.unusedVariables false
set_option linter.unusedSimpArgs false
set_option maxRecDepth 100000

set_option maxHeartbeats 4000000 in
theorem walk_big0 (kind n code : Int) (A : Option Addr) (m c : Nat) (ds : List UInt8) (A1 : Option Addr) (n1 c1 : Nat) (bs : List UInt8) (w : World) (w0 : SlB w w.heap.size A m c ds) (w1 : SlB w w.heap.size A1 n1 c1 bs) (hbi : (500 : Int) < (m : Int)) :
    Calls Try.prog 7 #[.agg #[.int .i64 kind, .int .i64 n, .int .i64 code, .slice A m c], .slice A1 n1 c1] w fun e w' => e = .returned (.bool true) ∧ Below w.heap.size w w' := by
  have hmx := w0.mx
  have hmx1 := w1.mx
  have hmc := w0.le
  have hmc1 := w1.le
  have HL := Lib.hid w0.len
  obtain ⟨g2, hg2⟩ : ∃ g, g = w.heap.size := ⟨_, rfl⟩
  obtain ⟨v, hv⟩ : ∃ v, v = w.alloc (.cells #[.int .i64 kind, .int .i64 n, .int .i64 code, .slice A m c] 24) := ⟨_, rfl⟩
  have b2 : Blk v g2 24 #[.int .i64 kind, .int .i64 n, .int .i64 code, .slice A m c] := by rw [hv, hg2]; exact Blk.new _ _ _
  have hbv : Below w.heap.size w v := by rw [hv]; exact below_alloc _ _
  have hz := hbv.size
  have hgv := b2.lt
  have HD := Lib.hid (w0.below hbv)
  have HE := Lib.hid (w1.below hbv)
  have HV := Lib.hid hv
  have HG := Lib.hid hg2
  have HB2 := Lib.hid b2
  clear hv hg2 w0 w1 b2
  go_enter Try.func7, Try.ntmps7
  go_wp2_with (go_at_call 13; rw [← HV.out, ← HG.out]; refine (encode_ok (m := 0) 7 0 10 (SlB.nil v 0 none) (Nat.zero_le _) okF_ten).mono ?_; rintro e wa ⟨Aa, ca, rfl, hoa, hba⟩; rw [frB_ten] at hoa; have hza := hba.size)
  refine wp_region_rel (fun W W' => Below W.heap.size W W') (fun W => Below wa.heap.size wa W)
    [Det (.nilIface), Det (.bool false), Det (.bool false), Det (.slice Aa 8 ca), Det (.string ⟨#[7, 0, 0, 0, 0, 10, 0, 0]⟩), Det (.string ⟨#[7, 0, 0, 0, 0, 10, 0, 0]⟩), Det (.bool false), Det (.bool false)]
    [[], [(0, some 22)], [(1, some 23)], [(2, some 24)], [(3, some 25), (2, some 24)], [(2, some 24)], [(4, some 26), (5, some 27), (2, some 24)], [(2, some 24), (6, some 28)]]
    [[], [0], [0, 1], [0, 1, 2], [0, 1, 2, 3], [0, 1, 2], [0, 1, 2, 3, 4, 5], [0, 1, 2, 3, 4, 5, 6]]
    [(0, some 22), (1, some 23), (2, some 24), (3, some 25), (4, some 26), (5, some 27), (6, some 28), (7, some 29)] (by kernel_rfl) (by kernel_rfl) (fun W W' h1 h2 => h1.trans (h2.mono h1.size)) ((Below.refl _ _).drew) ?_ ?_ ?_
  · exact (AllMono.cons Det.later (AllMono.cons Det.later (AllMono.cons Det.later (AllMono.cons Det.later (AllMono.cons Det.later (AllMono.cons Det.later (AllMono.cons Det.later (AllMono.cons Det.later AllMono.nil))))))))
  · refine AllOb.cons ?_ (AllOb.cons ?_ (AllOb.cons ?_ (AllOb.cons ?_ (AllOb.cons ?_ (AllOb.cons ?_ (AllOb.cons ?_ (AllOb.cons ?_ (AllOb.nil))))))))
    · intro uF W hC' hU aF hF
      have hC : Below wa.heap.size wa W := hC'
      clear hC'
      simp only [puts] at hF
      subst hF
      go_wp2_with (fail)
      exact ⟨rfl, rfl, (Below.refl _ _), rfl⟩
    · intro uF W hC' hU aF hF
      have hC : Below wa.heap.size wa W := hC'
      clear hC'
      have h22 : (Det (.nilIface)) (uF 0) W := hU.1
      clear hU
      simp only [puts, Act.put, List.setIfInBounds_toArray, List.set_cons_zero, List.set_cons_succ] at hF
      generalize uF 0 = x22 at h22 hF
      obtain rfl : x22 = (.nilIface) := h22
      subst hF
      go_wp2_with (fail)
      exact ⟨rfl, rfl, (Below.refl _ _), rfl⟩
    · intro uF W hC' hU aF hF
      have hC : Below wa.heap.size wa W := hC'
      clear hC'
      have h23 : (Det (.bool false)) (uF 1) W := hU.1
      clear hU
      simp only [puts, Act.put, List.setIfInBounds_toArray, List.set_cons_zero, List.set_cons_succ] at hF
      generalize uF 1 = x23 at h23 hF
      obtain rfl : x23 = (.bool false) := h23
      subst hF
      go_wp2_with (fail)
      exact ⟨rfl, rfl, (Below.refl _ _), rfl⟩
    · intro uF W hC' hU aF hF
      have hC : Below wa.heap.size wa W := hC'
      clear hC'
      have h24 : (Det (.bool false)) (uF 2) W := hU.1
      clear hU
      simp only [puts, Act.put, List.setIfInBounds_toArray, List.set_cons_zero, List.set_cons_succ] at hF
      generalize uF 2 = x24 at h24 hF
      obtain rfl : x24 = (.bool false) := h24
      subst hF
      go_wp2_with (fail)
      exact ⟨rfl, rfl, (Below.refl _ _), rfl⟩
    · intro uF W hC' hU aF hF
      have hC : Below wa.heap.size wa W := hC'
      clear hC'
      have h25 : (Det (.slice Aa 8 ca)) (uF 3) W := hU.1
      have h24 : (Det (.bool false)) (uF 2) W := hU.2.1
      clear hU
      simp only [puts, Act.put, List.setIfInBounds_toArray, List.set_cons_zero, List.set_cons_succ] at hF
      generalize uF 3 = x25 at h25 hF
      generalize uF 2 = x24 at h24 hF
      obtain rfl : x25 = (.slice Aa 8 ca) := h25
      obtain rfl : x24 = (.bool false) := h24
      subst hF
      have e26 := (OwB.sl (hoa.below hC)).str
      go_wp2_with (fail)
      exact ⟨rfl, rfl, (Below.refl _ _), rfl⟩
    · intro uF W hC' hU aF hF
      have hC : Below wa.heap.size wa W := hC'
      clear hC'
      have h24 : (Det (.bool false)) (uF 2) W := hU.1
      clear hU
      simp only [puts, Act.put, List.setIfInBounds_toArray, List.set_cons_zero, List.set_cons_succ] at hF
      generalize uF 2 = x24 at h24 hF
      obtain rfl : x24 = (.bool false) := h24
      subst hF
      go_wp2_with ((go_at_call 14; refine (ten_c _).mono ?_; rintro e W1 ⟨rfl, rfl⟩))
      exact ⟨rfl, rfl, (Below.refl _ _), rfl⟩
    · intro uF W hC' hU aF hF
      have hC : Below wa.heap.size wa W := hC'
      clear hC'
      have h26 : (Det (.string ⟨#[7, 0, 0, 0, 0, 10, 0, 0]⟩)) (uF 4) W := hU.1
      have h27 : (Det (.string ⟨#[7, 0, 0, 0, 0, 10, 0, 0]⟩)) (uF 5) W := hU.2.1
      have h24 : (Det (.bool false)) (uF 2) W := hU.2.2.1
      clear hU
      simp only [puts, Act.put, List.setIfInBounds_toArray, List.set_cons_zero, List.set_cons_succ] at hF
      generalize uF 4 = x26 at h26 hF
      generalize uF 5 = x27 at h27 hF
      generalize uF 2 = x24 at h24 hF
      obtain rfl : x26 = (.string ⟨#[7, 0, 0, 0, 0, 10, 0, 0]⟩) := h26
      obtain rfl : x27 = (.string ⟨#[7, 0, 0, 0, 0, 10, 0, 0]⟩) := h27
      obtain rfl : x24 = (.bool false) := h24
      subst hF
      go_wp2_with (fail)
      exact ⟨rfl, rfl, (Below.refl _ _), rfl⟩
    · intro uF W hC' hU aF hF
      have hC : Below wa.heap.size wa W := hC'
      clear hC'
      have h24 : (Det (.bool false)) (uF 2) W := hU.1
      have h28 : (Det (.bool false)) (uF 6) W := hU.2.1
      clear hU
      simp only [puts, Act.put, List.setIfInBounds_toArray, List.set_cons_zero, List.set_cons_succ] at hF
      generalize uF 2 = x24 at h24 hF
      generalize uF 6 = x28 at h28 hF
      obtain rfl : x24 = (.bool false) := h24
      obtain rfl : x28 = (.bool false) := h28
      subst hF
      go_wp2_with (fail)
      exact ⟨rfl, rfl, (Below.refl _ _), rfl⟩
  intro uF wb hC' hU aF hF
  have hCwb : Below wa.heap.size wa wb := hC'
  clear hC'
  have h29 : (Det (.bool false)) (uF 7) wb := hU.2.2.2.2.2.2.2.1
  clear hU
  simp only [puts, Act.put, List.setIfInBounds_toArray, List.set_cons_zero, List.set_cons_succ] at hF
  generalize uF 0 = x22 at hF
  generalize uF 1 = x23 at hF
  generalize uF 2 = x24 at hF
  generalize uF 3 = x25 at hF
  generalize uF 4 = x26 at hF
  generalize uF 5 = x27 at hF
  generalize uF 6 = x28 at hF
  generalize uF 7 = x29 at h29 hF
  obtain rfl : x29 = (.bool false) := h29
  subst hF
  have hvb := hba.trans (hCwb.mono hza)
  have hzb := hvb.size
  have hbwb := hbv.trans (hvb.mono hz)
  have d3 : wb.cell? ⟨g2, 3, none⟩ = some (.slice A m c) := by rw [(HB2.out.below hvb hgv).cell]; rfl
  go_wp2_with fail
  go_ret
  exact ⟨rfl, hbwb⟩

set_option maxHeartbeats 4000000 in
theorem walk_big1 (kind n code : Int) (A : Option Addr) (m c : Nat) (ds : List UInt8) (A1 : Option Addr) (n1 c1 : Nat) (bs : List UInt8) (w : World) (w0 : SlB w w.heap.size A m c ds) (w1 : SlB w w.heap.size A1 n1 c1 bs) (hbi : ¬ (500 : Int) < (m : Int)) (hbj : (4096 : Int) < (n1 : Int)) :
    Calls Try.prog 7 #[.agg #[.int .i64 kind, .int .i64 n, .int .i64 code, .slice A m c], .slice A1 n1 c1] w fun e w' => e = .returned (.bool true) ∧ Below w.heap.size w w' := by
  have hmx := w0.mx
  have hmx1 := w1.mx
  have hmc := w0.le
  have hmc1 := w1.le
  have HL := Lib.hid w0.len
  obtain ⟨g2, hg2⟩ : ∃ g, g = w.heap.size := ⟨_, rfl⟩
  obtain ⟨v, hv⟩ : ∃ v, v = w.alloc (.cells #[.int .i64 kind, .int .i64 n, .int .i64 code, .slice A m c] 24) := ⟨_, rfl⟩
  have b2 : Blk v g2 24 #[.int .i64 kind, .int .i64 n, .int .i64 code, .slice A m c] := by rw [hv, hg2]; exact Blk.new _ _ _
  have hbv : Below w.heap.size w v := by rw [hv]; exact below_alloc _ _
  have hz := hbv.size
  have hgv := b2.lt
  have HD := Lib.hid (w0.below hbv)
  have HE := Lib.hid (w1.below hbv)
  have HV := Lib.hid hv
  have HG := Lib.hid hg2
  have HB2 := Lib.hid b2
  clear hv hg2 w0 w1 b2
  go_enter Try.func7, Try.ntmps7
  go_wp2_with (go_at_call 13; rw [← HV.out, ← HG.out]; refine (encode_ok (m := 0) 7 0 10 (SlB.nil v 0 none) (Nat.zero_le _) okF_ten).mono ?_; rintro e wa ⟨Aa, ca, rfl, hoa, hba⟩; rw [frB_ten] at hoa; have hza := hba.size)
  refine wp_region_rel (fun W W' => Below W.heap.size W W') (fun W => Below wa.heap.size wa W)
    [Det (.nilIface), Det (.bool false), Det (.bool false), Det (.slice Aa 8 ca), Det (.string ⟨#[7, 0, 0, 0, 0, 10, 0, 0]⟩), Det (.string ⟨#[7, 0, 0, 0, 0, 10, 0, 0]⟩), Det (.bool false), Det (.bool false)]
    [[], [(0, some 22)], [(1, some 23)], [(2, some 24)], [(3, some 25), (2, some 24)], [(2, some 24)], [(4, some 26), (5, some 27), (2, some 24)], [(2, some 24), (6, some 28)]]
    [[], [0], [0, 1], [0, 1, 2], [0, 1, 2, 3], [0, 1, 2], [0, 1, 2, 3, 4, 5], [0, 1, 2, 3, 4, 5, 6]]
    [(0, some 22), (1, some 23), (2, some 24), (3, some 25), (4, some 26), (5, some 27), (6, some 28), (7, some 29)] (by kernel_rfl) (by kernel_rfl) (fun W W' h1 h2 => h1.trans (h2.mono h1.size)) ((Below.refl _ _).drew) ?_ ?_ ?_
  · exact (AllMono.cons Det.later (AllMono.cons Det.later (AllMono.cons Det.later (AllMono.cons Det.later (AllMono.cons Det.later (AllMono.cons Det.later (AllMono.cons Det.later (AllMono.cons Det.later AllMono.nil))))))))
  · refine AllOb.cons ?_ (AllOb.cons ?_ (AllOb.cons ?_ (AllOb.cons ?_ (AllOb.cons ?_ (AllOb.cons ?_ (AllOb.cons ?_ (AllOb.cons ?_ (AllOb.nil))))))))
    · intro uF W hC' hU aF hF
      have hC : Below wa.heap.size wa W := hC'
      clear hC'
      simp only [puts] at hF
      subst hF
      go_wp2_with (fail)
      exact ⟨rfl, rfl, (Below.refl _ _), rfl⟩
    · intro uF W hC' hU aF hF
      have hC : Below wa.heap.size wa W := hC'
      clear hC'
      have h22 : (Det (.nilIface)) (uF 0) W := hU.1
      clear hU
      simp only [puts, Act.put, List.setIfInBounds_toArray, List.set_cons_zero, List.set_cons_succ] at hF
      generalize uF 0 = x22 at h22 hF
      obtain rfl : x22 = (.nilIface) := h22
      subst hF
      go_wp2_with (fail)
      exact ⟨rfl, rfl, (Below.refl _ _), rfl⟩
    · intro uF W hC' hU aF hF
      have hC : Below wa.heap.size wa W := hC'
      clear hC'
      have h23 : (Det (.bool false)) (uF 1) W := hU.1
      clear hU
      simp only [puts, Act.put, List.setIfInBounds_toArray, List.set_cons_zero, List.set_cons_succ] at hF
      generalize uF 1 = x23 at h23 hF
      obtain rfl : x23 = (.bool false) := h23
      subst hF
      go_wp2_with (fail)
      exact ⟨rfl, rfl, (Below.refl _ _), rfl⟩
    · intro uF W hC' hU aF hF
      have hC : Below wa.heap.size wa W := hC'
      clear hC'
      have h24 : (Det (.bool false)) (uF 2) W := hU.1
      clear hU
      simp only [puts, Act.put, List.setIfInBounds_toArray, List.set_cons_zero, List.set_cons_succ] at hF
      generalize uF 2 = x24 at h24 hF
      obtain rfl : x24 = (.bool false) := h24
      subst hF
      go_wp2_with (fail)
      exact ⟨rfl, rfl, (Below.refl _ _), rfl⟩
    · intro uF W hC' hU aF hF
      have hC : Below wa.heap.size wa W := hC'
      clear hC'
      have h25 : (Det (.slice Aa 8 ca)) (uF 3) W := hU.1
      have h24 : (Det (.bool false)) (uF 2) W := hU.2.1
      clear hU
      simp only [puts, Act.put, List.setIfInBounds_toArray, List.set_cons_zero, List.set_cons_succ] at hF
      generalize uF 3 = x25 at h25 hF
      generalize uF 2 = x24 at h24 hF
      obtain rfl : x25 = (.slice Aa 8 ca) := h25
      obtain rfl : x24 = (.bool false) := h24
      subst hF
      have e26 := (OwB.sl (hoa.below hC)).str
      go_wp2_with (fail)
      exact ⟨rfl, rfl, (Below.refl _ _), rfl⟩
    · intro uF W hC' hU aF hF
      have hC : Below wa.heap.size wa W := hC'
      clear hC'
      have h24 : (Det (.bool false)) (uF 2) W := hU.1
      clear hU
      simp only [puts, Act.put, List.setIfInBounds_toArray, List.set_cons_zero, List.set_cons_succ] at hF
      generalize uF 2 = x24 at h24 hF
      obtain rfl : x24 = (.bool false) := h24
      subst hF
      go_wp2_with ((go_at_call 14; refine (ten_c _).mono ?_; rintro e W1 ⟨rfl, rfl⟩))
      exact ⟨rfl, rfl, (Below.refl _ _), rfl⟩
    · intro uF W hC' hU aF hF
      have hC : Below wa.heap.size wa W := hC'
      clear hC'
      have h26 : (Det (.string ⟨#[7, 0, 0, 0, 0, 10, 0, 0]⟩)) (uF 4) W := hU.1
      have h27 : (Det (.string ⟨#[7, 0, 0, 0, 0, 10, 0, 0]⟩)) (uF 5) W := hU.2.1
      have h24 : (Det (.bool false)) (uF 2) W := hU.2.2.1
      clear hU
      simp only [puts, Act.put, List.setIfInBounds_toArray, List.set_cons_zero, List.set_cons_succ] at hF
      generalize uF 4 = x26 at h26 hF
      generalize uF 5 = x27 at h27 hF
      generalize uF 2 = x24 at h24 hF
      obtain rfl : x26 = (.string ⟨#[7, 0, 0, 0, 0, 10, 0, 0]⟩) := h26
      obtain rfl : x27 = (.string ⟨#[7, 0, 0, 0, 0, 10, 0, 0]⟩) := h27
      obtain rfl : x24 = (.bool false) := h24
      subst hF
      go_wp2_with (fail)
      exact ⟨rfl, rfl, (Below.refl _ _), rfl⟩
    · intro uF W hC' hU aF hF
      have hC : Below wa.heap.size wa W := hC'
      clear hC'
      have h24 : (Det (.bool false)) (uF 2) W := hU.1
      have h28 : (Det (.bool false)) (uF 6) W := hU.2.1
      clear hU
      simp only [puts, Act.put, List.setIfInBounds_toArray, List.set_cons_zero, List.set_cons_succ] at hF
      generalize uF 2 = x24 at h24 hF
      generalize uF 6 = x28 at h28 hF
      obtain rfl : x24 = (.bool false) := h24
      obtain rfl : x28 = (.bool false) := h28
      subst hF
      go_wp2_with (fail)
      exact ⟨rfl, rfl, (Below.refl _ _), rfl⟩
  intro uF wb hC' hU aF hF
  have hCwb : Below wa.heap.size wa wb := hC'
  clear hC'
  have h29 : (Det (.bool false)) (uF 7) wb := hU.2.2.2.2.2.2.2.1
  clear hU
  simp only [puts, Act.put, List.setIfInBounds_toArray, List.set_cons_zero, List.set_cons_succ] at hF
  generalize uF 0 = x22 at hF
  generalize uF 1 = x23 at hF
  generalize uF 2 = x24 at hF
  generalize uF 3 = x25 at hF
  generalize uF 4 = x26 at hF
  generalize uF 5 = x27 at hF
  generalize uF 6 = x28 at hF
  generalize uF 7 = x29 at h29 hF
  obtain rfl : x29 = (.bool false) := h29
  subst hF
  have hvb := hba.trans (hCwb.mono hza)
  have hzb := hvb.size
  have hbwb := hbv.trans (hvb.mono hz)
  have d3 : wb.cell? ⟨g2, 3, none⟩ = some (.slice A m c) := by rw [(HB2.out.below hvb hgv).cell]; rfl
  go_wp2_with fail
  go_ret
  exact ⟨rfl, hbwb⟩

set_option maxHeartbeats 4000000 in
theorem walk_bad0 (kind n code : Int) (A : Option Addr) (m c : Nat) (ds : List UInt8) (A1 : Option Addr) (n1 c1 : Nat) (bs : List UInt8) (w : World) (w0 : SlB w w.heap.size A m c ds) (w1 : SlB w w.heap.size A1 n1 c1 bs) (hbi : ¬ (500 : Int) < (m : Int)) (hbj : ¬ (4096 : Int) < (n1 : Int)) (hd1 : ¬ decOk bs) (hok : ¬ okF kind n code m) :
    Calls Try.prog 7 #[.agg #[.int .i64 kind, .int .i64 n, .int .i64 code, .slice A m c], .slice A1 n1 c1] w fun e w' => e = .returned (.bool true) ∧ Below w.heap.size w w' := by
  have hmx := w0.mx
  have hmx1 := w1.mx
  have hmc := w0.le
  have hmc1 := w1.le
  have HL := Lib.hid w0.len
  obtain ⟨g2, hg2⟩ : ∃ g, g = w.heap.size := ⟨_, rfl⟩
  obtain ⟨v, hv⟩ : ∃ v, v = w.alloc (.cells #[.int .i64 kind, .int .i64 n, .int .i64 code, .slice A m c] 24) := ⟨_, rfl⟩
  have b2 : Blk v g2 24 #[.int .i64 kind, .int .i64 n, .int .i64 code, .slice A m c] := by rw [hv, hg2]; exact Blk.new _ _ _
  have hbv : Below w.heap.size w v := by rw [hv]; exact below_alloc _ _
  have hz := hbv.size
  have hgv := b2.lt
  have HD := Lib.hid (w0.below hbv)
  have HE := Lib.hid (w1.below hbv)
  have HV := Lib.hid hv
  have HG := Lib.hid hg2
  have HB2 := Lib.hid b2
  clear hv hg2 w0 w1 b2
  go_enter Try.func7, Try.ntmps7
  go_wp2_with (go_at_call 13; rw [← HV.out, ← HG.out]; refine (encode_ok (m := 0) 7 0 10 (SlB.nil v 0 none) (Nat.zero_le _) okF_ten).mono ?_; rintro e wa ⟨Aa, ca, rfl, hoa, hba⟩; rw [frB_ten] at hoa; have hza := hba.size)
  refine wp_region_rel (fun W W' => Below W.heap.size W W') (fun W => Below wa.heap.size wa W)
    [Det (.nilIface), Det (.bool false), Det (.bool false), Det (.slice Aa 8 ca), Det (.string ⟨#[7, 0, 0, 0, 0, 10, 0, 0]⟩), Det (.string ⟨#[7, 0, 0, 0, 0, 10, 0, 0]⟩), Det (.bool false), Det (.bool false)]
    [[], [(0, some 22)], [(1, some 23)], [(2, some 24)], [(3, some 25), (2, some 24)], [(2, some 24)], [(4, some 26), (5, some 27), (2, some 24)], [(2, some 24), (6, some 28)]]
    [[], [0], [0, 1], [0, 1, 2], [0, 1, 2, 3], [0, 1, 2], [0, 1, 2, 3, 4, 5], [0, 1, 2, 3, 4, 5, 6]]
    [(0, some 22), (1, some 23), (2, some 24), (3, some 25), (4, some 26), (5, some 27), (6, some 28), (7, some 29)] (by kernel_rfl) (by kernel_rfl) (fun W W' h1 h2 => h1.trans (h2.mono h1.size)) ((Below.refl _ _).drew) ?_ ?_ ?_
  · exact (AllMono.cons Det.later (AllMono.cons Det.later (AllMono.cons Det.later (AllMono.cons Det.later (AllMono.cons Det.later (AllMono.cons Det.later (AllMono.cons Det.later (AllMono.cons Det.later AllMono.nil))))))))
  · refine AllOb.cons ?_ (AllOb.cons ?_ (AllOb.cons ?_ (AllOb.cons ?_ (AllOb.cons ?_ (AllOb.cons ?_ (AllOb.cons ?_ (AllOb.cons ?_ (AllOb.nil))))))))
    · intro uF W hC' hU aF hF
      have hC : Below wa.heap.size wa W := hC'
      clear hC'
      simp only [puts] at hF
      subst hF
      go_wp2_with (fail)
      exact ⟨rfl, rfl, (Below.refl _ _), rfl⟩
    · intro uF W hC' hU aF hF
      have hC : Below wa.heap.size wa W := hC'
      clear hC'
      have h22 : (Det (.nilIface)) (uF 0) W := hU.1
      clear hU
      simp only [puts, Act.put, List.setIfInBounds_toArray, List.set_cons_zero, List.set_cons_succ] at hF
      generalize uF 0 = x22 at h22 hF
      obtain rfl : x22 = (.nilIface) := h22
      subst hF
      go_wp2_with (fail)
      exact ⟨rfl, rfl, (Below.refl _ _), rfl⟩
    · intro uF W hC' hU aF hF
      have hC : Below wa.heap.size wa W := hC'
      clear hC'
      have h23 : (Det (.bool false)) (uF 1) W := hU.1
      clear hU
      simp only [puts, Act.put, List.setIfInBounds_toArray, List.set_cons_zero, List.set_cons_succ] at hF
      generalize uF 1 = x23 at h23 hF
      obtain rfl : x23 = (.bool false) := h23
      subst hF
      go_wp2_with (fail)
      exact ⟨rfl, rfl, (Below.refl _ _), rfl⟩
    · intro uF W hC' hU aF hF
      have hC : Below wa.heap.size wa W := hC'
      clear hC'
      have h24 : (Det (.bool false)) (uF 2) W := hU.1
      clear hU
      simp only [puts, Act.put, List.setIfInBounds_toArray, List.set_cons_zero, List.set_cons_succ] at hF
      generalize uF 2 = x24 at h24 hF
      obtain rfl : x24 = (.bool false) := h24
      subst hF
      go_wp2_with (fail)
      exact ⟨rfl, rfl, (Below.refl _ _), rfl⟩
    · intro uF W hC' hU aF hF
      have hC : Below wa.heap.size wa W := hC'
      clear hC'
      have h25 : (Det (.slice Aa 8 ca)) (uF 3) W := hU.1
      have h24 : (Det (.bool false)) (uF 2) W := hU.2.1
      clear hU
      simp only [puts, Act.put, List.setIfInBounds_toArray, List.set_cons_zero, List.set_cons_succ] at hF
      generalize uF 3 = x25 at h25 hF
      generalize uF 2 = x24 at h24 hF
      obtain rfl : x25 = (.slice Aa 8 ca) := h25
      obtain rfl : x24 = (.bool false) := h24
      subst hF
      have e26 := (OwB.sl (hoa.below hC)).str
      go_wp2_with (fail)
      exact ⟨rfl, rfl, (Below.refl _ _), rfl⟩
    · intro uF W hC' hU aF hF
      have hC : Below wa.heap.size wa W := hC'
      clear hC'
      have h24 : (Det (.bool false)) (uF 2) W := hU.1
      clear hU
      simp only [puts, Act.put, List.setIfInBounds_toArray, List.set_cons_zero, List.set_cons_succ] at hF
      generalize uF 2 = x24 at h24 hF
      obtain rfl : x24 = (.bool false) := h24
      subst hF
      go_wp2_with ((go_at_call 14; refine (ten_c _).mono ?_; rintro e W1 ⟨rfl, rfl⟩))
      exact ⟨rfl, rfl, (Below.refl _ _), rfl⟩
    · intro uF W hC' hU aF hF
      have hC : Below wa.heap.size wa W := hC'
      clear hC'
      have h26 : (Det (.string ⟨#[7, 0, 0, 0, 0, 10, 0, 0]⟩)) (uF 4) W := hU.1
      have h27 : (Det (.string ⟨#[7, 0, 0, 0, 0, 10, 0, 0]⟩)) (uF 5) W := hU.2.1
      have h24 : (Det (.bool false)) (uF 2) W := hU.2.2.1
      clear hU
      simp only [puts, Act.put, List.setIfInBounds_toArray, List.set_cons_zero, List.set_cons_succ] at hF
      generalize uF 4 = x26 at h26 hF
      generalize uF 5 = x27 at h27 hF
      generalize uF 2 = x24 at h24 hF
      obtain rfl : x26 = (.string ⟨#[7, 0, 0, 0, 0, 10, 0, 0]⟩) := h26
      obtain rfl : x27 = (.string ⟨#[7, 0, 0, 0, 0, 10, 0, 0]⟩) := h27
      obtain rfl : x24 = (.bool false) := h24
      subst hF
      go_wp2_with (fail)
      exact ⟨rfl, rfl, (Below.refl _ _), rfl⟩
    · intro uF W hC' hU aF hF
      have hC : Below wa.heap.size wa W := hC'
      clear hC'
      have h24 : (Det (.bool false)) (uF 2) W := hU.1
      have h28 : (Det (.bool false)) (uF 6) W := hU.2.1
      clear hU
      simp only [puts, Act.put, List.setIfInBounds_toArray, List.set_cons_zero, List.set_cons_succ] at hF
      generalize uF 2 = x24 at h24 hF
      generalize uF 6 = x28 at h28 hF
      obtain rfl : x24 = (.bool false) := h24
      obtain rfl : x28 = (.bool false) := h28
      subst hF
      go_wp2_with (fail)
      exact ⟨rfl, rfl, (Below.refl _ _), rfl⟩
  intro uF wb hC' hU aF hF
  have hCwb : Below wa.heap.size wa wb := hC'
  clear hC'
  have h29 : (Det (.bool false)) (uF 7) wb := hU.2.2.2.2.2.2.2.1
  clear hU
  simp only [puts, Act.put, List.setIfInBounds_toArray, List.set_cons_zero, List.set_cons_succ] at hF
  generalize uF 0 = x22 at hF
  generalize uF 1 = x23 at hF
  generalize uF 2 = x24 at hF
  generalize uF 3 = x25 at hF
  generalize uF 4 = x26 at hF
  generalize uF 5 = x27 at hF
  generalize uF 6 = x28 at hF
  generalize uF 7 = x29 at h29 hF
  obtain rfl : x29 = (.bool false) := h29
  subst hF
  have hvb := hba.trans (hCwb.mono hza)
  have hzb := hvb.size
  have hbwb := hbv.trans (hvb.mono hz)
  have d3 : wb.cell? ⟨g2, 3, none⟩ = some (.slice A m c) := by rw [(HB2.out.below hvb hgv).cell]; rfl
  go_wp2_with (first
    | (go_at_call 13; have hve0 := hve; clear hve0; refine (encode_bad kind n code HDe.out (Nat.le_trans hz hze) hok).mono ?_; rintro e wf ⟨rfl, hbf⟩; have hvf := hve.trans (hbf.mono hze))
    | (go_at_call_of 23 A1; refine (decode_no (HE.out.below (hvb.mono hz)) (Nat.le_trans hz hzb) (by omega) hd1).mono ?_; rintro e wc ⟨rfl, hbc⟩; have hvc := hvb.trans (hbc.mono hzb); have hzc := hvc.size; have bnc := Blk.new wc 24 #[.int .i64 0, .int .i64 0, .int .i64 0, .slice none 0 0])
    | ((with_reducible show wpList _ _ _ (Oper.mk (some 7) (Op.alloc 24) _ _ _ _ :: _) _ _); refine wpList_alloc_agg rfl 24 rfl #[.int .i64 0, .int .i64 0, .int .i64 0, .slice none 0 0] zeroFr ?_)
    | ((with_reducible show wpList _ _ _ (Oper.mk none (Op.store 24 (.tmp 7) _) _ _ _ _ :: _) _ _); refine wpList_store_whole rfl 24 (.tmp 7) (.tmp 42) rfl (wc.heap.size) rfl [.int .i64 0, .int .i64 0, .int .i64 0, .slice none 0 0] rfl aggFr rfl _ _ bnc rfl (by simp [Value.oneCell']) ?_; intro vd bd gd sd; have hcd : Below wc.heap.size wc vd := (below_alloc _ _).grown gd (by simp) (fun k hk => by cases hk; exact Nat.le_refl _); have hvd := hvc.trans (hcd.mono hzc); have hzd := hvd.size; have hve := hvd; have hze := hzd; have b2e := HB2.out.below hve hgv; have HDe := Lib.hid (HD.out.below (hve.mono hz)); clear gd sd)
    | ((with_reducible show wpList _ _ _ (Oper.mk (some 60) (Op.load 24 _) _ _ _ _ :: _) _ _); refine wpList_load_whole (by rfl) 24 (.tmp 2) rfl (g2) rfl #[.int .i64 kind, .int .i64 n, .int .i64 code, .slice A m c] aggFr rfl _ b2e ?_))
  go_ret
  exact ⟨rfl, hbv.trans (hvf.mono hz)⟩

set_option maxHeartbeats 4000000 in
theorem walk_ok0 (kind n code : Int) (A : Option Addr) (m c : Nat) (ds : List UInt8) (A1 : Option Addr) (n1 c1 : Nat) (bs : List UInt8) (w : World) (w0 : SlB w w.heap.size A m c ds) (w1 : SlB w w.heap.size A1 n1 c1 bs) (hbi : ¬ (500 : Int) < (m : Int)) (hbj : ¬ (4096 : Int) < (n1 : Int)) (hd1 : ¬ decOk bs) (hok : okF kind n code m) :
    Calls Try.prog 7 #[.agg #[.int .i64 kind, .int .i64 n, .int .i64 code, .slice A m c], .slice A1 n1 c1] w fun e w' => e = .returned (.bool true) ∧ Below w.heap.size w w' := by
  have hmx := w0.mx
  have hmx1 := w1.mx
  have hmc := w0.le
  have hmc1 := w1.le
  have HL := Lib.hid w0.len
  obtain ⟨g2, hg2⟩ : ∃ g, g = w.heap.size := ⟨_, rfl⟩
  obtain ⟨v, hv⟩ : ∃ v, v = w.alloc (.cells #[.int .i64 kind, .int .i64 n, .int .i64 code, .slice A m c] 24) := ⟨_, rfl⟩
  have b2 : Blk v g2 24 #[.int .i64 kind, .int .i64 n, .int .i64 code, .slice A m c] := by rw [hv, hg2]; exact Blk.new _ _ _
  have hbv : Below w.heap.size w v := by rw [hv]; exact below_alloc _ _
  have hz := hbv.size
  have hgv := b2.lt
  have HD := Lib.hid (w0.below hbv)
  have HE := Lib.hid (w1.below hbv)
  have HV := Lib.hid hv
  have HG := Lib.hid hg2
  have HB2 := Lib.hid b2
  clear hv hg2 w0 w1 b2
  go_enter Try.func7, Try.ntmps7
  go_wp2_with (go_at_call 13; rw [← HV.out, ← HG.out]; refine (encode_ok (m := 0) 7 0 10 (SlB.nil v 0 none) (Nat.zero_le _) okF_ten).mono ?_; rintro e wa ⟨Aa, ca, rfl, hoa, hba⟩; rw [frB_ten] at hoa; have hza := hba.size)
  refine wp_region_rel (fun W W' => Below W.heap.size W W') (fun W => Below wa.heap.size wa W)
    [Det (.nilIface), Det (.bool false), Det (.bool false), Det (.slice Aa 8 ca), Det (.string ⟨#[7, 0, 0, 0, 0, 10, 0, 0]⟩), Det (.string ⟨#[7, 0, 0, 0, 0, 10, 0, 0]⟩), Det (.bool false), Det (.bool false)]
    [[], [(0, some 22)], [(1, some 23)], [(2, some 24)], [(3, some 25), (2, some 24)], [(2, some 24)], [(4, some 26), (5, some 27), (2, some 24)], [(2, some 24), (6, some 28)]]
    [[], [0], [0, 1], [0, 1, 2], [0, 1, 2, 3], [0, 1, 2], [0, 1, 2, 3, 4, 5], [0, 1, 2, 3, 4, 5, 6]]
    [(0, some 22), (1, some 23), (2, some 24), (3, some 25), (4, some 26), (5, some 27), (6, some 28), (7, some 29)] (by kernel_rfl) (by kernel_rfl) (fun W W' h1 h2 => h1.trans (h2.mono h1.size)) ((Below.refl _ _).drew) ?_ ?_ ?_
  · exact (AllMono.cons Det.later (AllMono.cons Det.later (AllMono.cons Det.later (AllMono.cons Det.later (AllMono.cons Det.later (AllMono.cons Det.later (AllMono.cons Det.later (AllMono.cons Det.later AllMono.nil))))))))
  · refine AllOb.cons ?_ (AllOb.cons ?_ (AllOb.cons ?_ (AllOb.cons ?_ (AllOb.cons ?_ (AllOb.cons ?_ (AllOb.cons ?_ (AllOb.cons ?_ (AllOb.nil))))))))
    · intro uF W hC' hU aF hF
      have hC : Below wa.heap.size wa W := hC'
      clear hC'
      simp only [puts] at hF
      subst hF
      go_wp2_with (fail)
      exact ⟨rfl, rfl, (Below.refl _ _), rfl⟩
    · intro uF W hC' hU aF hF
      have hC : Below wa.heap.size wa W := hC'
      clear hC'
      have h22 : (Det (.nilIface)) (uF 0) W := hU.1
      clear hU
      simp only [puts, Act.put, List.setIfInBounds_toArray, List.set_cons_zero, List.set_cons_succ] at hF
      generalize uF 0 = x22 at h22 hF
      obtain rfl : x22 = (.nilIface) := h22
      subst hF
      go_wp2_with (fail)
      exact ⟨rfl, rfl, (Below.refl _ _), rfl⟩
    · intro uF W hC' hU aF hF
      have hC : Below wa.heap.size wa W := hC'
      clear hC'
      have h23 : (Det (.bool false)) (uF 1) W := hU.1
      clear hU
      simp only [puts, Act.put, List.setIfInBounds_toArray, List.set_cons_zero, List.set_cons_succ] at hF
      generalize uF 1 = x23 at h23 hF
      obtain rfl : x23 = (.bool false) := h23
      subst hF
      go_wp2_with (fail)
      exact ⟨rfl, rfl, (Below.refl _ _), rfl⟩
    · intro uF W hC' hU aF hF
      have hC : Below wa.heap.size wa W := hC'
      clear hC'
      have h24 : (Det (.bool false)) (uF 2) W := hU.1
      clear hU
      simp only [puts, Act.put, List.setIfInBounds_toArray, List.set_cons_zero, List.set_cons_succ] at hF
      generalize uF 2 = x24 at h24 hF
      obtain rfl : x24 = (.bool false) := h24
      subst hF
      go_wp2_with (fail)
      exact ⟨rfl, rfl, (Below.refl _ _), rfl⟩
    · intro uF W hC' hU aF hF
      have hC : Below wa.heap.size wa W := hC'
      clear hC'
      have h25 : (Det (.slice Aa 8 ca)) (uF 3) W := hU.1
      have h24 : (Det (.bool false)) (uF 2) W := hU.2.1
      clear hU
      simp only [puts, Act.put, List.setIfInBounds_toArray, List.set_cons_zero, List.set_cons_succ] at hF
      generalize uF 3 = x25 at h25 hF
      generalize uF 2 = x24 at h24 hF
      obtain rfl : x25 = (.slice Aa 8 ca) := h25
      obtain rfl : x24 = (.bool false) := h24
      subst hF
      have e26 := (OwB.sl (hoa.below hC)).str
      go_wp2_with (fail)
      exact ⟨rfl, rfl, (Below.refl _ _), rfl⟩
    · intro uF W hC' hU aF hF
      have hC : Below wa.heap.size wa W := hC'
      clear hC'
      have h24 : (Det (.bool false)) (uF 2) W := hU.1
      clear hU
      simp only [puts, Act.put, List.setIfInBounds_toArray, List.set_cons_zero, List.set_cons_succ] at hF
      generalize uF 2 = x24 at h24 hF
      obtain rfl : x24 = (.bool false) := h24
      subst hF
      go_wp2_with ((go_at_call 14; refine (ten_c _).mono ?_; rintro e W1 ⟨rfl, rfl⟩))
      exact ⟨rfl, rfl, (Below.refl _ _), rfl⟩
    · intro uF W hC' hU aF hF
      have hC : Below wa.heap.size wa W := hC'
      clear hC'
      have h26 : (Det (.string ⟨#[7, 0, 0, 0, 0, 10, 0, 0]⟩)) (uF 4) W := hU.1
      have h27 : (Det (.string ⟨#[7, 0, 0, 0, 0, 10, 0, 0]⟩)) (uF 5) W := hU.2.1
      have h24 : (Det (.bool false)) (uF 2) W := hU.2.2.1
      clear hU
      simp only [puts, Act.put, List.setIfInBounds_toArray, List.set_cons_zero, List.set_cons_succ] at hF
      generalize uF 4 = x26 at h26 hF
      generalize uF 5 = x27 at h27 hF
      generalize uF 2 = x24 at h24 hF
      obtain rfl : x26 = (.string ⟨#[7, 0, 0, 0, 0, 10, 0, 0]⟩) := h26
      obtain rfl : x27 = (.string ⟨#[7, 0, 0, 0, 0, 10, 0, 0]⟩) := h27
      obtain rfl : x24 = (.bool false) := h24
      subst hF
      go_wp2_with (fail)
      exact ⟨rfl, rfl, (Below.refl _ _), rfl⟩
    · intro uF W hC' hU aF hF
      have hC : Below wa.heap.size wa W := hC'
      clear hC'
      have h24 : (Det (.bool false)) (uF 2) W := hU.1
      have h28 : (Det (.bool false)) (uF 6) W := hU.2.1
      clear hU
      simp only [puts, Act.put, List.setIfInBounds_toArray, List.set_cons_zero, List.set_cons_succ] at hF
      generalize uF 2 = x24 at h24 hF
      generalize uF 6 = x28 at h28 hF
      obtain rfl : x24 = (.bool false) := h24
      obtain rfl : x28 = (.bool false) := h28
      subst hF
      go_wp2_with (fail)
      exact ⟨rfl, rfl, (Below.refl _ _), rfl⟩
  intro uF wb hC' hU aF hF
  have hCwb : Below wa.heap.size wa wb := hC'
  clear hC'
  have h29 : (Det (.bool false)) (uF 7) wb := hU.2.2.2.2.2.2.2.1
  clear hU
  simp only [puts, Act.put, List.setIfInBounds_toArray, List.set_cons_zero, List.set_cons_succ] at hF
  generalize uF 0 = x22 at hF
  generalize uF 1 = x23 at hF
  generalize uF 2 = x24 at hF
  generalize uF 3 = x25 at hF
  generalize uF 4 = x26 at hF
  generalize uF 5 = x27 at hF
  generalize uF 6 = x28 at hF
  generalize uF 7 = x29 at h29 hF
  obtain rfl : x29 = (.bool false) := h29
  subst hF
  have hvb := hba.trans (hCwb.mono hza)
  have hzb := hvb.size
  have hbwb := hbv.trans (hvb.mono hz)
  have d3 : wb.cell? ⟨g2, 3, none⟩ = some (.slice A m c) := by rw [(HB2.out.below hvb hgv).cell]; rfl
  obtain ⟨hp0, hp1, hp2, hp8, hp6⟩ := frB_dec (k := kind) (n := n) (c := code) (ds := ds) (by rw [HL.out]; exact hok)
  have hdec := frB_ok (k := kind) (n := n) (c := code) (ds := ds) (by rw [HL.out]; exact hok)
  have HT := Lib.hid (fun (j : Nat) (hj : j < 8 + m) => not_dec_take (k := kind) (n := n) (c := code) (ds := ds) (by rw [HL.out]; exact hok) (j := j) (by rw [HL.out]; exact hj))
  have HM := Lib.hid (not_dec_more (k := kind) (n := n) (c := code) (ds := ds) (by rw [HL.out]; exact hok) 0)
  have hm4 : m ≤ 4096 := hok.2.2.2.2.2.2
  go_wp2_with (first
    | (go_at_call 13; have hve0 := hve; clear hve0; refine (encode_ok kind n code HDe.out (Nat.le_trans hz hze) hok).mono ?_; rintro e wf ⟨Af, cf, rfl, hof, hbf⟩; have hvf := hve.trans (hbf.mono hze); have hzf := hvf.size; have HOF := Lib.hid hof; have hcf := OwB.cap hof; have hlf := OwB.le hof; clear hof)
    | (go_at_call_of 23 Af; refine (decode_yes (OwB.sl HOF.out) (Nat.le_refl _) (by omega) hdec).mono ?_; rintro e wg ⟨Ag, cg, rfl, hog, hbg⟩; rw [hp0, hp1, hp2, show 8 + m - 8 = m by omega]; rw [hp8, show 8 + m - 8 = m by omega] at hog; have hvg := hvf.trans (hbg.mono hzf); have hzg := hvg.size; have bng := Blk.new wg 24 #[.int .i64 0, .int .i64 0, .int .i64 0, .slice none 0 0])
    | ((with_reducible show wpList _ _ _ (Oper.mk (some 13) (Op.alloc 24) _ _ _ _ :: _) _ _); refine wpList_alloc_agg rfl 24 rfl #[.int .i64 0, .int .i64 0, .int .i64 0, .slice none 0 0] zeroFr ?_)
    | ((with_reducible show wpList _ _ _ (Oper.mk none (Op.store 24 (.tmp 13) _) _ _ _ _ :: _) _ _); refine wpList_store_whole rfl 24 (.tmp 13) (.tmp 69) rfl (wg.heap.size) rfl [.int .i64 kind, .int .i64 n, .int .i64 code, .slice Ag m cg] rfl aggFr rfl _ _ bng rfl (by simp [Value.oneCell']) ?_; intro vh bh gh sh; have hgh : Below wg.heap.size wg vh := (below_alloc _ _).grown gh (by simp) (fun k hk => by cases hk; exact Nat.le_refl _); have hvh := hvg.trans (hgh.mono hzg); have hzh := hvh.size; have b2h := HB2.out.below hvh hgv; have hoh := hog.below hgh; have HOH := Lib.hid ((HOF.out.below hbg).below hgh); clear gh sh)
    | ((with_reducible show wpList _ _ _ (Oper.mk (some 74) (Op.load 24 _) _ _ _ _ :: _) _ _); refine wpList_load_whole (by rfl) 24 (.tmp 13) rfl (wg.heap.size) rfl #[.int .i64 kind, .int .i64 n, .int .i64 code, .slice Ag m cg] aggFr rfl _ bh ?_)
    | ((with_reducible show wpList _ _ _ (Oper.mk (some 75) (Op.load 24 _) _ _ _ _ :: _) _ _); refine wpList_load_whole (by rfl) 24 (.tmp 2) rfl (g2) rfl #[.int .i64 kind, .int .i64 n, .int .i64 code, .slice A m c] aggFr rfl _ b2h ?_)
    | (go_at_call 26; refine (samep_c kind n code (OwB.sl hoh) (HD.out.below (hvh.mono hz)) (Nat.le_refl _) (Nat.le_trans hz hzh)).mono ?_; rintro e wi ⟨rfl, hbi'⟩; have hvi := hvh.trans (hbi'.mono hzh); have hzi := hvi.size; have HOI := Lib.hid (HOH.out.below hbi'))
    | (go_at_call_of 23 A1; refine (decode_no (HE.out.below (hvb.mono hz)) (Nat.le_trans hz hzb) (by omega) hd1).mono ?_; rintro e wc ⟨rfl, hbc⟩; have hvc := hvb.trans (hbc.mono hzb); have hzc := hvc.size; have bnc := Blk.new wc 24 #[.int .i64 0, .int .i64 0, .int .i64 0, .slice none 0 0])
    | ((with_reducible show wpList _ _ _ (Oper.mk (some 7) (Op.alloc 24) _ _ _ _ :: _) _ _); refine wpList_alloc_agg rfl 24 rfl #[.int .i64 0, .int .i64 0, .int .i64 0, .slice none 0 0] zeroFr ?_)
    | ((with_reducible show wpList _ _ _ (Oper.mk none (Op.store 24 (.tmp 7) _) _ _ _ _ :: _) _ _); refine wpList_store_whole rfl 24 (.tmp 7) (.tmp 42) rfl (wc.heap.size) rfl [.int .i64 0, .int .i64 0, .int .i64 0, .slice none 0 0] rfl aggFr rfl _ _ bnc rfl (by simp [Value.oneCell']) ?_; intro vd bd gd sd; have hcd : Below wc.heap.size wc vd := (below_alloc _ _).grown gd (by simp) (fun k hk => by cases hk; exact Nat.le_refl _); have hvd := hvc.trans (hcd.mono hzc); have hzd := hvd.size; have hve := hvd; have hze := hzd; have b2e := HB2.out.below hve hgv; have HDe := Lib.hid (HD.out.below (hve.mono hz)); clear gd sd)
    | ((with_reducible show wpList _ _ _ (Oper.mk (some 60) (Op.load 24 _) _ _ _ _ :: _) _ _); refine wpList_load_whole (by rfl) 24 (.tmp 2) rfl (g2) rfl #[.int .i64 kind, .int .i64 n, .int .i64 code, .slice A m c] aggFr rfl _ b2e ?_))
  have HVI := Lib.hid hvi
  have hwi := Lib.hid (hbv.trans (hvi.mono hz))
  clear hvi
  go_loopw [81] (fun v81 wr => ∃ i : Nat, i ≤ 8 + m ∧ v81 = .int .i64 (i : Int) ∧ Below wi.heap.size wi wr) (fun v81 _ => (8 + m) - (intOf v81).toNat)
  case atStart => exact ⟨0, by omega, rfl, Below.refl _ _⟩
  case round =>
    obtain ⟨i, hi, rfl, hw⟩ := hrel
    have hzw := hw.size
    have hor := HOI.out.below hw
    have hcap := OwB.cap hor
    have hle := OwB.le hor
    have HOR := Lib.hid hor
    have HW := Lib.hid hw
    clear hor hw
    by_cases hlt : i < 8 + m
    · have hii : (i : Int) < 8 + (m : Int) := by omega
      have hi0 : (0 : Int) ≤ (i : Int) := by omega
      have hic : (i : Int) ≤ (cf : Int) := by omega
      have hni := HT.out i hlt
      have hti := (OwB.sl HOR.out).trim (k := i) (by omega)
      go_wp2_with (first
        | (go_at_call 23; refine (decode_no hti (Nat.le_refl _) (by omega) hni).mono ?_; rintro e wj ⟨rfl, hbj'⟩; have hwj := HW.out.trans (hbj'.mono hzw); have hzj := hwj.size; have bnj := Blk.new wj 24 #[.int .i64 0, .int .i64 0, .int .i64 0, .slice none 0 0])
        | ((with_reducible show wpList _ _ _ (Oper.mk (some 15) (Op.alloc 24) _ _ _ _ :: _) _ _); refine wpList_alloc_agg rfl 24 rfl #[.int .i64 0, .int .i64 0, .int .i64 0, .slice none 0 0] zeroFr ?_)
        | ((with_reducible show wpList _ _ _ (Oper.mk none (Op.store 24 (.tmp 15) _) _ _ _ _ :: _) _ _); refine wpList_store_whole rfl 24 (.tmp 15) (.tmp 89) rfl (wj.heap.size) rfl [.int .i64 0, .int .i64 0, .int .i64 0, .slice none 0 0] rfl aggFr rfl _ _ bnj rfl (by simp [Value.oneCell']) ?_; intro wk bk gk sk; have hwk : Below wi.heap.size wi wk := (hwj.alloc hzj _).grown gk (Nat.le_trans hzj (by simp)) (fun k hk => by cases hk; exact hzj); clear gk sk))
      exact ⟨⟨i + 1, by omega, by go_num, hwk⟩, by simp [intOf]; omega⟩
    · obtain rfl : i = 8 + m := by omega
      have hii : ¬ (((8 + m : Nat) : Nat) : Int) < 8 + (m : Int) := by omega
      have hlit := SlB.new wr #[.int .u8 0] [0] 1 (B := wr.heap.size + 1) (Nat.lt_succ_self _) rfl (by simp [maxLen]) rfl
      have hora := OwB.alloc HOR.out (.cells #[.int .u8 0] 5)
      have hwr := hwi.out.trans (HW.out.mono hwi.out.size)
      have hwa := hwr.alloc hwr.size (.cells #[.int .u8 0] 5)
      have hzwa := hwa.size
      go_wp2_with (first
        | (at_builtin; refine wpList_append8 rfl (.tmp 95) (.tmp 96) rfl rfl (Row.base_le hora (Nat.le_trans hz hze)) rfl hlit (by omega) hzwa (8 + m + 1) rfl ?_; intro A9 c9 w9 h9 q9; have hw9 := q9.below (Row.base_le hora (Nat.le_trans hz hze)) hwa (Nat.le_refl _) hzwa; have hz9 := hw9.size)
        | (go_at_call 23; refine (decode_no (OwB.sl h9) (Nat.le_refl _) (by omega) HM.out).mono ?_; rintro e wx ⟨rfl, hbx⟩; have hwx := hw9.trans (hbx.mono hz9))
        | (go_at_call 18; refine (is_err 10 10 rfl true rfl _).mono ?_; rintro e w' ⟨rfl, rfl⟩))
      go_ret
      exact ⟨rfl, hwx⟩

set_option maxHeartbeats 4000000 in
theorem walk_bad1 (kind n code : Int) (A : Option Addr) (m c : Nat) (ds : List UInt8) (A1 : Option Addr) (n1 c1 : Nat) (bs : List UInt8) (w : World) (w0 : SlB w w.heap.size A m c ds) (w1 : SlB w w.heap.size A1 n1 c1 bs) (hbi : ¬ (500 : Int) < (m : Int)) (hbj : ¬ (4096 : Int) < (n1 : Int)) (hd1 : decOk bs) (hok : ¬ okF kind n code m) :
    Calls Try.prog 7 #[.agg #[.int .i64 kind, .int .i64 n, .int .i64 code, .slice A m c], .slice A1 n1 c1] w fun e w' => e = .returned (.bool true) ∧ Below w.heap.size w w' := by
  have hln1 := w1.len
  have hmx := w0.mx
  have hmx1 := w1.mx
  have hmc := w0.le
  have hmc1 := w1.le
  have HL := Lib.hid w0.len
  obtain ⟨g2, hg2⟩ : ∃ g, g = w.heap.size := ⟨_, rfl⟩
  obtain ⟨v, hv⟩ : ∃ v, v = w.alloc (.cells #[.int .i64 kind, .int .i64 n, .int .i64 code, .slice A m c] 24) := ⟨_, rfl⟩
  have b2 : Blk v g2 24 #[.int .i64 kind, .int .i64 n, .int .i64 code, .slice A m c] := by rw [hv, hg2]; exact Blk.new _ _ _
  have hbv : Below w.heap.size w v := by rw [hv]; exact below_alloc _ _
  have hz := hbv.size
  have hgv := b2.lt
  have HD := Lib.hid (w0.below hbv)
  have HE := Lib.hid (w1.below hbv)
  have HV := Lib.hid hv
  have HG := Lib.hid hg2
  have HB2 := Lib.hid b2
  clear hv hg2 w0 w1 b2
  go_enter Try.func7, Try.ntmps7
  go_wp2_with (go_at_call 13; rw [← HV.out, ← HG.out]; refine (encode_ok (m := 0) 7 0 10 (SlB.nil v 0 none) (Nat.zero_le _) okF_ten).mono ?_; rintro e wa ⟨Aa, ca, rfl, hoa, hba⟩; rw [frB_ten] at hoa; have hza := hba.size)
  refine wp_region_rel (fun W W' => Below W.heap.size W W') (fun W => Below wa.heap.size wa W)
    [Det (.nilIface), Det (.bool false), Det (.bool false), Det (.slice Aa 8 ca), Det (.string ⟨#[7, 0, 0, 0, 0, 10, 0, 0]⟩), Det (.string ⟨#[7, 0, 0, 0, 0, 10, 0, 0]⟩), Det (.bool false), Det (.bool false)]
    [[], [(0, some 22)], [(1, some 23)], [(2, some 24)], [(3, some 25), (2, some 24)], [(2, some 24)], [(4, some 26), (5, some 27), (2, some 24)], [(2, some 24), (6, some 28)]]
    [[], [0], [0, 1], [0, 1, 2], [0, 1, 2, 3], [0, 1, 2], [0, 1, 2, 3, 4, 5], [0, 1, 2, 3, 4, 5, 6]]
    [(0, some 22), (1, some 23), (2, some 24), (3, some 25), (4, some 26), (5, some 27), (6, some 28), (7, some 29)] (by kernel_rfl) (by kernel_rfl) (fun W W' h1 h2 => h1.trans (h2.mono h1.size)) ((Below.refl _ _).drew) ?_ ?_ ?_
  · exact (AllMono.cons Det.later (AllMono.cons Det.later (AllMono.cons Det.later (AllMono.cons Det.later (AllMono.cons Det.later (AllMono.cons Det.later (AllMono.cons Det.later (AllMono.cons Det.later AllMono.nil))))))))
  · refine AllOb.cons ?_ (AllOb.cons ?_ (AllOb.cons ?_ (AllOb.cons ?_ (AllOb.cons ?_ (AllOb.cons ?_ (AllOb.cons ?_ (AllOb.cons ?_ (AllOb.nil))))))))
    · intro uF W hC' hU aF hF
      have hC : Below wa.heap.size wa W := hC'
      clear hC'
      simp only [puts] at hF
      subst hF
      go_wp2_with (fail)
      exact ⟨rfl, rfl, (Below.refl _ _), rfl⟩
    · intro uF W hC' hU aF hF
      have hC : Below wa.heap.size wa W := hC'
      clear hC'
      have h22 : (Det (.nilIface)) (uF 0) W := hU.1
      clear hU
      simp only [puts, Act.put, List.setIfInBounds_toArray, List.set_cons_zero, List.set_cons_succ] at hF
      generalize uF 0 = x22 at h22 hF
      obtain rfl : x22 = (.nilIface) := h22
      subst hF
      go_wp2_with (fail)
      exact ⟨rfl, rfl, (Below.refl _ _), rfl⟩
    · intro uF W hC' hU aF hF
      have hC : Below wa.heap.size wa W := hC'
      clear hC'
      have h23 : (Det (.bool false)) (uF 1) W := hU.1
      clear hU
      simp only [puts, Act.put, List.setIfInBounds_toArray, List.set_cons_zero, List.set_cons_succ] at hF
      generalize uF 1 = x23 at h23 hF
      obtain rfl : x23 = (.bool false) := h23
      subst hF
      go_wp2_with (fail)
      exact ⟨rfl, rfl, (Below.refl _ _), rfl⟩
    · intro uF W hC' hU aF hF
      have hC : Below wa.heap.size wa W := hC'
      clear hC'
      have h24 : (Det (.bool false)) (uF 2) W := hU.1
      clear hU
      simp only [puts, Act.put, List.setIfInBounds_toArray, List.set_cons_zero, List.set_cons_succ] at hF
      generalize uF 2 = x24 at h24 hF
      obtain rfl : x24 = (.bool false) := h24
      subst hF
      go_wp2_with (fail)
      exact ⟨rfl, rfl, (Below.refl _ _), rfl⟩
    · intro uF W hC' hU aF hF
      have hC : Below wa.heap.size wa W := hC'
      clear hC'
      have h25 : (Det (.slice Aa 8 ca)) (uF 3) W := hU.1
      have h24 : (Det (.bool false)) (uF 2) W := hU.2.1
      clear hU
      simp only [puts, Act.put, List.setIfInBounds_toArray, List.set_cons_zero, List.set_cons_succ] at hF
      generalize uF 3 = x25 at h25 hF
      generalize uF 2 = x24 at h24 hF
      obtain rfl : x25 = (.slice Aa 8 ca) := h25
      obtain rfl : x24 = (.bool false) := h24
      subst hF
      have e26 := (OwB.sl (hoa.below hC)).str
      go_wp2_with (fail)
      exact ⟨rfl, rfl, (Below.refl _ _), rfl⟩
    · intro uF W hC' hU aF hF
      have hC : Below wa.heap.size wa W := hC'
      clear hC'
      have h24 : (Det (.bool false)) (uF 2) W := hU.1
      clear hU
      simp only [puts, Act.put, List.setIfInBounds_toArray, List.set_cons_zero, List.set_cons_succ] at hF
      generalize uF 2 = x24 at h24 hF
      obtain rfl : x24 = (.bool false) := h24
      subst hF
      go_wp2_with ((go_at_call 14; refine (ten_c _).mono ?_; rintro e W1 ⟨rfl, rfl⟩))
      exact ⟨rfl, rfl, (Below.refl _ _), rfl⟩
    · intro uF W hC' hU aF hF
      have hC : Below wa.heap.size wa W := hC'
      clear hC'
      have h26 : (Det (.string ⟨#[7, 0, 0, 0, 0, 10, 0, 0]⟩)) (uF 4) W := hU.1
      have h27 : (Det (.string ⟨#[7, 0, 0, 0, 0, 10, 0, 0]⟩)) (uF 5) W := hU.2.1
      have h24 : (Det (.bool false)) (uF 2) W := hU.2.2.1
      clear hU
      simp only [puts, Act.put, List.setIfInBounds_toArray, List.set_cons_zero, List.set_cons_succ] at hF
      generalize uF 4 = x26 at h26 hF
      generalize uF 5 = x27 at h27 hF
      generalize uF 2 = x24 at h24 hF
      obtain rfl : x26 = (.string ⟨#[7, 0, 0, 0, 0, 10, 0, 0]⟩) := h26
      obtain rfl : x27 = (.string ⟨#[7, 0, 0, 0, 0, 10, 0, 0]⟩) := h27
      obtain rfl : x24 = (.bool false) := h24
      subst hF
      go_wp2_with (fail)
      exact ⟨rfl, rfl, (Below.refl _ _), rfl⟩
    · intro uF W hC' hU aF hF
      have hC : Below wa.heap.size wa W := hC'
      clear hC'
      have h24 : (Det (.bool false)) (uF 2) W := hU.1
      have h28 : (Det (.bool false)) (uF 6) W := hU.2.1
      clear hU
      simp only [puts, Act.put, List.setIfInBounds_toArray, List.set_cons_zero, List.set_cons_succ] at hF
      generalize uF 2 = x24 at h24 hF
      generalize uF 6 = x28 at h28 hF
      obtain rfl : x24 = (.bool false) := h24
      obtain rfl : x28 = (.bool false) := h28
      subst hF
      go_wp2_with (fail)
      exact ⟨rfl, rfl, (Below.refl _ _), rfl⟩
  intro uF wb hC' hU aF hF
  have hCwb : Below wa.heap.size wa wb := hC'
  clear hC'
  have h29 : (Det (.bool false)) (uF 7) wb := hU.2.2.2.2.2.2.2.1
  clear hU
  simp only [puts, Act.put, List.setIfInBounds_toArray, List.set_cons_zero, List.set_cons_succ] at hF
  generalize uF 0 = x22 at hF
  generalize uF 1 = x23 at hF
  generalize uF 2 = x24 at hF
  generalize uF 3 = x25 at hF
  generalize uF 4 = x26 at hF
  generalize uF 5 = x27 at hF
  generalize uF 6 = x28 at hF
  generalize uF 7 = x29 at h29 hF
  obtain rfl : x29 = (.bool false) := h29
  subst hF
  have hvb := hba.trans (hCwb.mono hza)
  have hzb := hvb.size
  have hbwb := hbv.trans (hvb.mono hz)
  have d3 : wb.cell? ⟨g2, 3, none⟩ = some (.slice A m c) := by rw [(HB2.out.below hvb hgv).cell]; rfl
  obtain ⟨k0, hk0⟩ : ∃ k, k = d0 bs := ⟨_, rfl⟩
  obtain ⟨k1, hk1⟩ : ∃ k, k = d1 bs := ⟨_, rfl⟩
  obtain ⟨k2, hk2⟩ : ∃ k, k = d2 bs := ⟨_, rfl⟩
  have HPAR : Hid (frB k0 k1 k2 (bs.drop 8) = bs) := Lib.hid (by rw [hk0, hk1, hk2]; exact frB_parts hd1)
  have HOK1 : Hid (okF k0 k1 k2 (n1 - 8)) := Lib.hid (by have := hd1.2.1; rwa [HE.out.len, ← hk0, ← hk1, ← hk2] at this)
  have HK0 := Lib.hid hk0
  have HK1 := Lib.hid hk1
  have HK2 := Lib.hid hk2
  have HD1 := Lib.hid hd1
  clear hk0 hk1 hk2 hd1
  go_wp2_with (first
    | (go_at_call 13; have hve0 := hve; clear hve0; refine (encode_bad kind n code HDe.out (Nat.le_trans hz hze) hok).mono ?_; rintro e wf ⟨rfl, hbf⟩; have hvf := hve.trans (hbf.mono hze))
    | (go_at_call_of 23 A1; refine (decode_yes (HE.out.below (hvb.mono hz)) (Nat.le_trans hz hzb) (by omega) HD1.out).mono ?_; rintro e wc ⟨Ac, cc, rfl, hoc, hbc⟩; rw [← HK0.out, ← HK1.out, ← HK2.out]; have hvc := hvb.trans (hbc.mono hzb); have hzc := hvc.size; have bnc := Blk.new wc 24 #[.int .i64 0, .int .i64 0, .int .i64 0, .slice none 0 0])
    | ((with_reducible show wpList _ _ _ (Oper.mk (some 7) (Op.alloc 24) _ _ _ _ :: _) _ _); refine wpList_alloc_agg rfl 24 rfl #[.int .i64 0, .int .i64 0, .int .i64 0, .slice none 0 0] zeroFr ?_)
    | ((with_reducible show wpList _ _ _ (Oper.mk none (Op.store 24 (.tmp 7) _) _ _ _ _ :: _) _ _); refine wpList_store_whole rfl 24 (.tmp 7) (.tmp 42) rfl (wc.heap.size) rfl [.int .i64 k0, .int .i64 k1, .int .i64 k2, .slice Ac (n1 - 8) cc] rfl aggFr rfl _ _ bnc rfl (by simp [Value.oneCell']) ?_; intro vd bd gd sd; have hcd : Below wc.heap.size wc vd := (below_alloc _ _).grown gd (by simp) (fun k hk => by cases hk; exact Nat.le_refl _); have hvd := hvc.trans (hcd.mono hzc); have hzd := hvd.size; clear gd sd)
    | ((with_reducible show wpList _ _ _ (Oper.mk (some 47) (Op.load 24 _) _ _ _ _ :: _) _ _); refine wpList_load_whole (by rfl) 24 (.tmp 7) rfl (wc.heap.size) rfl #[.int .i64 k0, .int .i64 k1, .int .i64 k2, .slice Ac (n1 - 8) cc] aggFr rfl _ bd ?_)
    | (go_at_call 13; refine (encode_ok k0 k1 k2 (OwB.sl (hoc.below hcd)) (Nat.le_refl _) HOK1.out).mono ?_; rintro e we ⟨Ae, ce, rfl, hoe, hbe⟩; rw [HPAR.out] at hoe; have hve := hvd.trans (hbe.mono hzd); have hze := hve.size; have b2e := HB2.out.below hve hgv; have HDe := Lib.hid (HD.out.below (hve.mono hz)); have HEe := Lib.hid (HE.out.below (hve.mono hz)))
    | (go_at_call 17; refine (same_c hoe.sl HEe.out true (by simp)).mono ?_; rintro e w' ⟨rfl, rfl⟩)
    | ((with_reducible show wpList _ _ _ (Oper.mk (some 60) (Op.load 24 _) _ _ _ _ :: _) _ _); refine wpList_load_whole (by rfl) 24 (.tmp 2) rfl (g2) rfl #[.int .i64 kind, .int .i64 n, .int .i64 code, .slice A m c] aggFr rfl _ b2e ?_))
  go_ret
  exact ⟨rfl, hbv.trans (hvf.mono hz)⟩

set_option maxHeartbeats 4000000 in
theorem walk_ok1 (kind n code : Int) (A : Option Addr) (m c : Nat) (ds : List UInt8) (A1 : Option Addr) (n1 c1 : Nat) (bs : List UInt8) (w : World) (w0 : SlB w w.heap.size A m c ds) (w1 : SlB w w.heap.size A1 n1 c1 bs) (hbi : ¬ (500 : Int) < (m : Int)) (hbj : ¬ (4096 : Int) < (n1 : Int)) (hd1 : decOk bs) (hok : okF kind n code m) :
    Calls Try.prog 7 #[.agg #[.int .i64 kind, .int .i64 n, .int .i64 code, .slice A m c], .slice A1 n1 c1] w fun e w' => e = .returned (.bool true) ∧ Below w.heap.size w w' := by
  have hln1 := w1.len
  have hmx := w0.mx
  have hmx1 := w1.mx
  have hmc := w0.le
  have hmc1 := w1.le
  have HL := Lib.hid w0.len
  obtain ⟨g2, hg2⟩ : ∃ g, g = w.heap.size := ⟨_, rfl⟩
  obtain ⟨v, hv⟩ : ∃ v, v = w.alloc (.cells #[.int .i64 kind, .int .i64 n, .int .i64 code, .slice A m c] 24) := ⟨_, rfl⟩
  have b2 : Blk v g2 24 #[.int .i64 kind, .int .i64 n, .int .i64 code, .slice A m c] := by rw [hv, hg2]; exact Blk.new _ _ _
  have hbv : Below w.heap.size w v := by rw [hv]; exact below_alloc _ _
  have hz := hbv.size
  have hgv := b2.lt
  have HD := Lib.hid (w0.below hbv)
  have HE := Lib.hid (w1.below hbv)
  have HV := Lib.hid hv
  have HG := Lib.hid hg2
  have HB2 := Lib.hid b2
  clear hv hg2 w0 w1 b2
  go_enter Try.func7, Try.ntmps7
  go_wp2_with (go_at_call 13; rw [← HV.out, ← HG.out]; refine (encode_ok (m := 0) 7 0 10 (SlB.nil v 0 none) (Nat.zero_le _) okF_ten).mono ?_; rintro e wa ⟨Aa, ca, rfl, hoa, hba⟩; rw [frB_ten] at hoa; have hza := hba.size)
  refine wp_region_rel (fun W W' => Below W.heap.size W W') (fun W => Below wa.heap.size wa W)
    [Det (.nilIface), Det (.bool false), Det (.bool false), Det (.slice Aa 8 ca), Det (.string ⟨#[7, 0, 0, 0, 0, 10, 0, 0]⟩), Det (.string ⟨#[7, 0, 0, 0, 0, 10, 0, 0]⟩), Det (.bool false), Det (.bool false)]
    [[], [(0, some 22)], [(1, some 23)], [(2, some 24)], [(3, some 25), (2, some 24)], [(2, some 24)], [(4, some 26), (5, some 27), (2, some 24)], [(2, some 24), (6, some 28)]]
    [[], [0], [0, 1], [0, 1, 2], [0, 1, 2, 3], [0, 1, 2], [0, 1, 2, 3, 4, 5], [0, 1, 2, 3, 4, 5, 6]]
    [(0, some 22), (1, some 23), (2, some 24), (3, some 25), (4, some 26), (5, some 27), (6, some 28), (7, some 29)] (by kernel_rfl) (by kernel_rfl) (fun W W' h1 h2 => h1.trans (h2.mono h1.size)) ((Below.refl _ _).drew) ?_ ?_ ?_
  · exact (AllMono.cons Det.later (AllMono.cons Det.later (AllMono.cons Det.later (AllMono.cons Det.later (AllMono.cons Det.later (AllMono.cons Det.later (AllMono.cons Det.later (AllMono.cons Det.later AllMono.nil))))))))
  · refine AllOb.cons ?_ (AllOb.cons ?_ (AllOb.cons ?_ (AllOb.cons ?_ (AllOb.cons ?_ (AllOb.cons ?_ (AllOb.cons ?_ (AllOb.cons ?_ (AllOb.nil))))))))
    · intro uF W hC' hU aF hF
      have hC : Below wa.heap.size wa W := hC'
      clear hC'
      simp only [puts] at hF
      subst hF
      go_wp2_with (fail)
      exact ⟨rfl, rfl, (Below.refl _ _), rfl⟩
    · intro uF W hC' hU aF hF
      have hC : Below wa.heap.size wa W := hC'
      clear hC'
      have h22 : (Det (.nilIface)) (uF 0) W := hU.1
      clear hU
      simp only [puts, Act.put, List.setIfInBounds_toArray, List.set_cons_zero, List.set_cons_succ] at hF
      generalize uF 0 = x22 at h22 hF
      obtain rfl : x22 = (.nilIface) := h22
      subst hF
      go_wp2_with (fail)
      exact ⟨rfl, rfl, (Below.refl _ _), rfl⟩
    · intro uF W hC' hU aF hF
      have hC : Below wa.heap.size wa W := hC'
      clear hC'
      have h23 : (Det (.bool false)) (uF 1) W := hU.1
      clear hU
      simp only [puts, Act.put, List.setIfInBounds_toArray, List.set_cons_zero, List.set_cons_succ] at hF
      generalize uF 1 = x23 at h23 hF
      obtain rfl : x23 = (.bool false) := h23
      subst hF
      go_wp2_with (fail)
      exact ⟨rfl, rfl, (Below.refl _ _), rfl⟩
    · intro uF W hC' hU aF hF
      have hC : Below wa.heap.size wa W := hC'
      clear hC'
      have h24 : (Det (.bool false)) (uF 2) W := hU.1
      clear hU
      simp only [puts, Act.put, List.setIfInBounds_toArray, List.set_cons_zero, List.set_cons_succ] at hF
      generalize uF 2 = x24 at h24 hF
      obtain rfl : x24 = (.bool false) := h24
      subst hF
      go_wp2_with (fail)
      exact ⟨rfl, rfl, (Below.refl _ _), rfl⟩
    · intro uF W hC' hU aF hF
      have hC : Below wa.heap.size wa W := hC'
      clear hC'
      have h25 : (Det (.slice Aa 8 ca)) (uF 3) W := hU.1
      have h24 : (Det (.bool false)) (uF 2) W := hU.2.1
      clear hU
      simp only [puts, Act.put, List.setIfInBounds_toArray, List.set_cons_zero, List.set_cons_succ] at hF
      generalize uF 3 = x25 at h25 hF
      generalize uF 2 = x24 at h24 hF
      obtain rfl : x25 = (.slice Aa 8 ca) := h25
      obtain rfl : x24 = (.bool false) := h24
      subst hF
      have e26 := (OwB.sl (hoa.below hC)).str
      go_wp2_with (fail)
      exact ⟨rfl, rfl, (Below.refl _ _), rfl⟩
    · intro uF W hC' hU aF hF
      have hC : Below wa.heap.size wa W := hC'
      clear hC'
      have h24 : (Det (.bool false)) (uF 2) W := hU.1
      clear hU
      simp only [puts, Act.put, List.setIfInBounds_toArray, List.set_cons_zero, List.set_cons_succ] at hF
      generalize uF 2 = x24 at h24 hF
      obtain rfl : x24 = (.bool false) := h24
      subst hF
      go_wp2_with ((go_at_call 14; refine (ten_c _).mono ?_; rintro e W1 ⟨rfl, rfl⟩))
      exact ⟨rfl, rfl, (Below.refl _ _), rfl⟩
    · intro uF W hC' hU aF hF
      have hC : Below wa.heap.size wa W := hC'
      clear hC'
      have h26 : (Det (.string ⟨#[7, 0, 0, 0, 0, 10, 0, 0]⟩)) (uF 4) W := hU.1
      have h27 : (Det (.string ⟨#[7, 0, 0, 0, 0, 10, 0, 0]⟩)) (uF 5) W := hU.2.1
      have h24 : (Det (.bool false)) (uF 2) W := hU.2.2.1
      clear hU
      simp only [puts, Act.put, List.setIfInBounds_toArray, List.set_cons_zero, List.set_cons_succ] at hF
      generalize uF 4 = x26 at h26 hF
      generalize uF 5 = x27 at h27 hF
      generalize uF 2 = x24 at h24 hF
      obtain rfl : x26 = (.string ⟨#[7, 0, 0, 0, 0, 10, 0, 0]⟩) := h26
      obtain rfl : x27 = (.string ⟨#[7, 0, 0, 0, 0, 10, 0, 0]⟩) := h27
      obtain rfl : x24 = (.bool false) := h24
      subst hF
      go_wp2_with (fail)
      exact ⟨rfl, rfl, (Below.refl _ _), rfl⟩
    · intro uF W hC' hU aF hF
      have hC : Below wa.heap.size wa W := hC'
      clear hC'
      have h24 : (Det (.bool false)) (uF 2) W := hU.1
      have h28 : (Det (.bool false)) (uF 6) W := hU.2.1
      clear hU
      simp only [puts, Act.put, List.setIfInBounds_toArray, List.set_cons_zero, List.set_cons_succ] at hF
      generalize uF 2 = x24 at h24 hF
      generalize uF 6 = x28 at h28 hF
      obtain rfl : x24 = (.bool false) := h24
      obtain rfl : x28 = (.bool false) := h28
      subst hF
      go_wp2_with (fail)
      exact ⟨rfl, rfl, (Below.refl _ _), rfl⟩
  intro uF wb hC' hU aF hF
  have hCwb : Below wa.heap.size wa wb := hC'
  clear hC'
  have h29 : (Det (.bool false)) (uF 7) wb := hU.2.2.2.2.2.2.2.1
  clear hU
  simp only [puts, Act.put, List.setIfInBounds_toArray, List.set_cons_zero, List.set_cons_succ] at hF
  generalize uF 0 = x22 at hF
  generalize uF 1 = x23 at hF
  generalize uF 2 = x24 at hF
  generalize uF 3 = x25 at hF
  generalize uF 4 = x26 at hF
  generalize uF 5 = x27 at hF
  generalize uF 6 = x28 at hF
  generalize uF 7 = x29 at h29 hF
  obtain rfl : x29 = (.bool false) := h29
  subst hF
  have hvb := hba.trans (hCwb.mono hza)
  have hzb := hvb.size
  have hbwb := hbv.trans (hvb.mono hz)
  have d3 : wb.cell? ⟨g2, 3, none⟩ = some (.slice A m c) := by rw [(HB2.out.below hvb hgv).cell]; rfl
  obtain ⟨k0, hk0⟩ : ∃ k, k = d0 bs := ⟨_, rfl⟩
  obtain ⟨k1, hk1⟩ : ∃ k, k = d1 bs := ⟨_, rfl⟩
  obtain ⟨k2, hk2⟩ : ∃ k, k = d2 bs := ⟨_, rfl⟩
  have HPAR : Hid (frB k0 k1 k2 (bs.drop 8) = bs) := Lib.hid (by rw [hk0, hk1, hk2]; exact frB_parts hd1)
  have HOK1 : Hid (okF k0 k1 k2 (n1 - 8)) := Lib.hid (by have := hd1.2.1; rwa [HE.out.len, ← hk0, ← hk1, ← hk2] at this)
  have HK0 := Lib.hid hk0
  have HK1 := Lib.hid hk1
  have HK2 := Lib.hid hk2
  have HD1 := Lib.hid hd1
  clear hk0 hk1 hk2 hd1
  obtain ⟨hp0, hp1, hp2, hp8, hp6⟩ := frB_dec (k := kind) (n := n) (c := code) (ds := ds) (by rw [HL.out]; exact hok)
  have hdec := frB_ok (k := kind) (n := n) (c := code) (ds := ds) (by rw [HL.out]; exact hok)
  have HT := Lib.hid (fun (j : Nat) (hj : j < 8 + m) => not_dec_take (k := kind) (n := n) (c := code) (ds := ds) (by rw [HL.out]; exact hok) (j := j) (by rw [HL.out]; exact hj))
  have HM := Lib.hid (not_dec_more (k := kind) (n := n) (c := code) (ds := ds) (by rw [HL.out]; exact hok) 0)
  have hm4 : m ≤ 4096 := hok.2.2.2.2.2.2
  go_wp2_with (first
    | (go_at_call 13; have hve0 := hve; clear hve0; refine (encode_ok kind n code HDe.out (Nat.le_trans hz hze) hok).mono ?_; rintro e wf ⟨Af, cf, rfl, hof, hbf⟩; have hvf := hve.trans (hbf.mono hze); have hzf := hvf.size; have HOF := Lib.hid hof; have hcf := OwB.cap hof; have hlf := OwB.le hof; clear hof)
    | (go_at_call_of 23 Af; refine (decode_yes (OwB.sl HOF.out) (Nat.le_refl _) (by omega) hdec).mono ?_; rintro e wg ⟨Ag, cg, rfl, hog, hbg⟩; rw [hp0, hp1, hp2, show 8 + m - 8 = m by omega]; rw [hp8, show 8 + m - 8 = m by omega] at hog; have hvg := hvf.trans (hbg.mono hzf); have hzg := hvg.size; have bng := Blk.new wg 24 #[.int .i64 0, .int .i64 0, .int .i64 0, .slice none 0 0])
    | ((with_reducible show wpList _ _ _ (Oper.mk (some 13) (Op.alloc 24) _ _ _ _ :: _) _ _); refine wpList_alloc_agg rfl 24 rfl #[.int .i64 0, .int .i64 0, .int .i64 0, .slice none 0 0] zeroFr ?_)
    | ((with_reducible show wpList _ _ _ (Oper.mk none (Op.store 24 (.tmp 13) _) _ _ _ _ :: _) _ _); refine wpList_store_whole rfl 24 (.tmp 13) (.tmp 69) rfl (wg.heap.size) rfl [.int .i64 kind, .int .i64 n, .int .i64 code, .slice Ag m cg] rfl aggFr rfl _ _ bng rfl (by simp [Value.oneCell']) ?_; intro vh bh gh sh; have hgh : Below wg.heap.size wg vh := (below_alloc _ _).grown gh (by simp) (fun k hk => by cases hk; exact Nat.le_refl _); have hvh := hvg.trans (hgh.mono hzg); have hzh := hvh.size; have b2h := HB2.out.below hvh hgv; have hoh := hog.below hgh; have HOH := Lib.hid ((HOF.out.below hbg).below hgh); clear gh sh)
    | ((with_reducible show wpList _ _ _ (Oper.mk (some 74) (Op.load 24 _) _ _ _ _ :: _) _ _); refine wpList_load_whole (by rfl) 24 (.tmp 13) rfl (wg.heap.size) rfl #[.int .i64 kind, .int .i64 n, .int .i64 code, .slice Ag m cg] aggFr rfl _ bh ?_)
    | ((with_reducible show wpList _ _ _ (Oper.mk (some 75) (Op.load 24 _) _ _ _ _ :: _) _ _); refine wpList_load_whole (by rfl) 24 (.tmp 2) rfl (g2) rfl #[.int .i64 kind, .int .i64 n, .int .i64 code, .slice A m c] aggFr rfl _ b2h ?_)
    | (go_at_call 26; refine (samep_c kind n code (OwB.sl hoh) (HD.out.below (hvh.mono hz)) (Nat.le_refl _) (Nat.le_trans hz hzh)).mono ?_; rintro e wi ⟨rfl, hbi'⟩; have hvi := hvh.trans (hbi'.mono hzh); have hzi := hvi.size; have HOI := Lib.hid (HOH.out.below hbi'))
    | (go_at_call_of 23 A1; refine (decode_yes (HE.out.below (hvb.mono hz)) (Nat.le_trans hz hzb) (by omega) HD1.out).mono ?_; rintro e wc ⟨Ac, cc, rfl, hoc, hbc⟩; rw [← HK0.out, ← HK1.out, ← HK2.out]; have hvc := hvb.trans (hbc.mono hzb); have hzc := hvc.size; have bnc := Blk.new wc 24 #[.int .i64 0, .int .i64 0, .int .i64 0, .slice none 0 0])
    | ((with_reducible show wpList _ _ _ (Oper.mk (some 7) (Op.alloc 24) _ _ _ _ :: _) _ _); refine wpList_alloc_agg rfl 24 rfl #[.int .i64 0, .int .i64 0, .int .i64 0, .slice none 0 0] zeroFr ?_)
    | ((with_reducible show wpList _ _ _ (Oper.mk none (Op.store 24 (.tmp 7) _) _ _ _ _ :: _) _ _); refine wpList_store_whole rfl 24 (.tmp 7) (.tmp 42) rfl (wc.heap.size) rfl [.int .i64 k0, .int .i64 k1, .int .i64 k2, .slice Ac (n1 - 8) cc] rfl aggFr rfl _ _ bnc rfl (by simp [Value.oneCell']) ?_; intro vd bd gd sd; have hcd : Below wc.heap.size wc vd := (below_alloc _ _).grown gd (by simp) (fun k hk => by cases hk; exact Nat.le_refl _); have hvd := hvc.trans (hcd.mono hzc); have hzd := hvd.size; clear gd sd)
    | ((with_reducible show wpList _ _ _ (Oper.mk (some 47) (Op.load 24 _) _ _ _ _ :: _) _ _); refine wpList_load_whole (by rfl) 24 (.tmp 7) rfl (wc.heap.size) rfl #[.int .i64 k0, .int .i64 k1, .int .i64 k2, .slice Ac (n1 - 8) cc] aggFr rfl _ bd ?_)
    | (go_at_call 13; refine (encode_ok k0 k1 k2 (OwB.sl (hoc.below hcd)) (Nat.le_refl _) HOK1.out).mono ?_; rintro e we ⟨Ae, ce, rfl, hoe, hbe⟩; rw [HPAR.out] at hoe; have hve := hvd.trans (hbe.mono hzd); have hze := hve.size; have b2e := HB2.out.below hve hgv; have HDe := Lib.hid (HD.out.below (hve.mono hz)); have HEe := Lib.hid (HE.out.below (hve.mono hz)))
    | (go_at_call 17; refine (same_c hoe.sl HEe.out true (by simp)).mono ?_; rintro e w' ⟨rfl, rfl⟩)
    | ((with_reducible show wpList _ _ _ (Oper.mk (some 60) (Op.load 24 _) _ _ _ _ :: _) _ _); refine wpList_load_whole (by rfl) 24 (.tmp 2) rfl (g2) rfl #[.int .i64 kind, .int .i64 n, .int .i64 code, .slice A m c] aggFr rfl _ b2e ?_))
  have HVI := Lib.hid hvi
  have hwi := Lib.hid (hbv.trans (hvi.mono hz))
  clear hvi
  go_loopw [81] (fun v81 wr => ∃ i : Nat, i ≤ 8 + m ∧ v81 = .int .i64 (i : Int) ∧ Below wi.heap.size wi wr) (fun v81 _ => (8 + m) - (intOf v81).toNat)
  case atStart => exact ⟨0, by omega, rfl, Below.refl _ _⟩
  case round =>
    obtain ⟨i, hi, rfl, hw⟩ := hrel
    have hzw := hw.size
    have hor := HOI.out.below hw
    have hcap := OwB.cap hor
    have hle := OwB.le hor
    have HOR := Lib.hid hor
    have HW := Lib.hid hw
    clear hor hw
    by_cases hlt : i < 8 + m
    · have hii : (i : Int) < 8 + (m : Int) := by omega
      have hi0 : (0 : Int) ≤ (i : Int) := by omega
      have hic : (i : Int) ≤ (cf : Int) := by omega
      have hni := HT.out i hlt
      have hti := (OwB.sl HOR.out).trim (k := i) (by omega)
      go_wp2_with (first
        | (go_at_call 23; refine (decode_no hti (Nat.le_refl _) (by omega) hni).mono ?_; rintro e wj ⟨rfl, hbj'⟩; have hwj := HW.out.trans (hbj'.mono hzw); have hzj := hwj.size; have bnj := Blk.new wj 24 #[.int .i64 0, .int .i64 0, .int .i64 0, .slice none 0 0])
        | ((with_reducible show wpList _ _ _ (Oper.mk (some 15) (Op.alloc 24) _ _ _ _ :: _) _ _); refine wpList_alloc_agg rfl 24 rfl #[.int .i64 0, .int .i64 0, .int .i64 0, .slice none 0 0] zeroFr ?_)
        | ((with_reducible show wpList _ _ _ (Oper.mk none (Op.store 24 (.tmp 15) _) _ _ _ _ :: _) _ _); refine wpList_store_whole rfl 24 (.tmp 15) (.tmp 89) rfl (wj.heap.size) rfl [.int .i64 0, .int .i64 0, .int .i64 0, .slice none 0 0] rfl aggFr rfl _ _ bnj rfl (by simp [Value.oneCell']) ?_; intro wk bk gk sk; have hwk : Below wi.heap.size wi wk := (hwj.alloc hzj _).grown gk (Nat.le_trans hzj (by simp)) (fun k hk => by cases hk; exact hzj); clear gk sk))
      exact ⟨⟨i + 1, by omega, by go_num, hwk⟩, by simp [intOf]; omega⟩
    · obtain rfl : i = 8 + m := by omega
      have hii : ¬ (((8 + m : Nat) : Nat) : Int) < 8 + (m : Int) := by omega
      have hlit := SlB.new wr #[.int .u8 0] [0] 1 (B := wr.heap.size + 1) (Nat.lt_succ_self _) rfl (by simp [maxLen]) rfl
      have hora := OwB.alloc HOR.out (.cells #[.int .u8 0] 5)
      have hwr := hwi.out.trans (HW.out.mono hwi.out.size)
      have hwa := hwr.alloc hwr.size (.cells #[.int .u8 0] 5)
      have hzwa := hwa.size
      go_wp2_with (first
        | (at_builtin; refine wpList_append8 rfl (.tmp 95) (.tmp 96) rfl rfl (Row.base_le hora (Nat.le_trans hz hze)) rfl hlit (by omega) hzwa (8 + m + 1) rfl ?_; intro A9 c9 w9 h9 q9; have hw9 := q9.below (Row.base_le hora (Nat.le_trans hz hze)) hwa (Nat.le_refl _) hzwa; have hz9 := hw9.size)
        | (go_at_call 23; refine (decode_no (OwB.sl h9) (Nat.le_refl _) (by omega) HM.out).mono ?_; rintro e wx ⟨rfl, hbx⟩; have hwx := hw9.trans (hbx.mono hz9))
        | (go_at_call 18; refine (is_err 10 10 rfl true rfl _).mono ?_; rintro e w' ⟨rfl, rfl⟩))
      go_ret
      exact ⟨rfl, hwx⟩

theorem walk (A1 : Option Addr) (n1 c1 : Nat) (bs : List UInt8) (cs0 : List Value) (w : World) (w1 : SlB w w.heap.size A1 n1 c1 bs) (y1 : c1 ≤ 140737488351232) (R0 : Rds w (.cons (.int .i64) (.cons (.int .i64) (.cons (.int .i64) (.cons (.slice (.int .u8) 1 1) .nil)))) cs0) :
    Calls Try.prog 7 #[.agg cs0.toArray, .slice A1 n1 c1] w fun e w' => e = .returned (.bool true) ∧ Below w.heap.size w w' := by
  obtain ⟨_, _, rfl, r0, _, _, rfl, r1, _, _, rfl, r2, _, _, rfl, r3, rfl⟩ := R0
  obtain ⟨kind, rfl, hx0⟩ := r0
  obtain ⟨n, rfl, hx1⟩ := r1
  obtain ⟨code, rfl, hx2⟩ := r2
  obtain ⟨A, m, c, ds, rfl, w3, y3⟩ := Rds.bytes r3
  clear r3
  simp only [List.cons_append, List.nil_append, List.append_nil]
  by_cases hbi : (500 : Int) < (m : Int)
  · exact walk_big0 kind n code A m c ds A1 n1 c1 bs w w3 w1 hbi
  by_cases hbj : (4096 : Int) < (n1 : Int)
  · exact walk_big1 kind n code A m c ds A1 n1 c1 bs w w3 w1 hbi hbj
  by_cases hd1 : decOk bs
  · by_cases hok : okF kind n code m
    · exact walk_ok1 kind n code A m c ds A1 n1 c1 bs w w3 w1 hbi hbj hd1 hok
    · exact walk_bad1 kind n code A m c ds A1 n1 c1 bs w w3 w1 hbi hbj hd1 hok
  · by_cases hok : okF kind n code m
    · exact walk_ok0 kind n code A m c ds A1 n1 c1 bs w w3 w1 hbi hbj hd1 hok
    · exact walk_bad0 kind n code A m c ds A1 n1 c1 bs w w3 w1 hbi hbj hd1 hok
end Go.Proofs.Ytjjpifppdjpcnaa.pduBack

