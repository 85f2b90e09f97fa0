/-
  tree.Update, tree.Verify.
-/
import Derived.Test.YtdifepfplfkfoaaClimb
import Derived.Test.YtdifepfplfkfoaaEqual
namespace Go.Proofs.Ytdifepfplfkfoaa
open Go.RowKit
set_option linter.unusedVariables false
set_option linter.unusedSimpArgs false
set_option maxRecDepth 100000

/-- What is wrong with a tree of so many digests and a block. -/
def checkV (n : Nat) (b : Int) : Value := if n = 32 then (if 0 ≤ b ∧ b < 16 then .nilIface else .iface 70 (.int .i64 1)) else .iface 70 (.int .i64 2)
theorem check_c {A : Option Addr} {n c : Nat} (hn : n ≤ 9223372036854775807) (b : Int) (w : World) :
    Calls Try.prog 41 #[.slice A n c, .int .i64 b] w fun e w' => e = .returned (checkV n b) ∧ w = w' := by
  by_cases h32 : n = 32
  · subst h32
    by_cases hb : 0 ≤ b ∧ b < 16
    · rw [checkV, if_pos rfl, if_pos hb]
      go_enter Try.func41, Try.ntmps41
      go_wp2_with (go_at_call 45; refine (has_c b true (decide_eq_true hb) _).mono ?_; rintro e w2 ⟨rfl, rfl⟩)
      go_ret
      exact ⟨rfl, rfl⟩
    · rw [checkV, if_pos rfl, if_neg hb]
      go_enter Try.func41, Try.ntmps41
      go_wp2_with (go_at_call 45; refine (has_c b false (decide_eq_false hb) _).mono ?_; rintro e w2 ⟨rfl, rfl⟩)
      go_ret
      exact ⟨rfl, rfl⟩
  · rw [checkV, if_neg h32]
    have hne : ((n : Int) != 32) = true := by rw [bne_iff_ne]; omega
    have hne2 : ¬ (n : Int) = 32 := by omega
    go_enter Try.func41, Try.ntmps41
    go_wp2_with fail
    go_ret
    exact ⟨rfl, rfl⟩

set_option maxHeartbeats 1000000 in
theorem update_c {w : World} {B B' : Nat} {A A' : Option Addr} {n c c' : Nat} {key xs leaf : List UInt8} (hk : SlB w B A n c key) (hB : B ≤ w.heap.size) (hn : n ≤ 1099511627776) (hx : SlS w B' A' 32 c' xs) (hB' : B' ≤ w.heap.size) (b : Int) (hb : 0 ≤ b ∧ b < 16) (hl : leaf.length = 32) :
    Calls Try.prog 32 #[.slice A n c, .slice A' 32 c', .int .i64 b, .agg (arr8 leaf)] w fun e w' => ∃ g c2, e = .returned (.tuple #[.slice (some ⟨g, 0, none⟩) 32 c2, .nilIface]) ∧ OwS w' w.heap.size (some ⟨g, 0, none⟩) 32 c2 (climbT key xs b leaf) ∧ Below w.heap.size w w' := by
  obtain ⟨v, hv⟩ : ∃ v, v = w.alloc (.cells (arr8 leaf) 28) := ⟨_, rfl⟩
  have hbv : Below w.heap.size w v := by rw [hv]; exact below_alloc _ _
  have b7 : Blk v w.heap.size 28 (arr8 leaf) := by rw [hv]; exact Blk.new _ _ _
  have hz := hbv.size
  have hcv : checkV 32 b = .nilIface := by rw [checkV, if_pos rfl, if_pos hb]
  have HCV := Lib.hid hcv
  have HV := Lib.hid hv
  have hcl := climb_c (hk.below (hbv.mono hB)) (Nat.le_trans hB hz) hn (hx.below (hbv.mono hB')) (Nat.le_trans hB' hz) b hb hl
  have HC := Lib.hid hcl
  clear hv hk hx hcv hcl
  go_enter Try.func32, Try.ntmps32
  go_wp2_with (first
    | (go_at_call 41; rw [← HV.out]; refine (check_c (by omega) b v).mono ?_; rintro e w2 ⟨rfl, rfl⟩; rw [HCV.out])
    | ((with_reducible show wpList _ _ _ (Oper.mk _ (Op.load 28 (.tmp 7)) _ _ _ _ :: _) _ _); refine wpList_load_whole (by rfl) 28 (.tmp 7) rfl w.heap.size rfl (arr8 leaf) agg44 (by rw [size_arr8, hl]) 28 b7 ?_)
    | (go_at_call 42; refine HC.out.mono ?_; rintro e w3 ⟨g, c2, rfl, h3, hb3⟩))
  go_ret2
  exact ⟨g, c2, rfl, Row.base_le h3 hz, hbv.trans (hb3.mono hz)⟩
theorem update_bad {w : World} {A A' : Option Addr} {n c n' c' : Nat} {leaf : List UInt8} (hn : n' ≤ 9223372036854775807) (b : Int) (k : Int) (hk : checkV n' b = .iface 70 (.int .i64 k)) (hl : leaf.length = 32) :
    Calls Try.prog 32 #[.slice A n c, .slice A' n' c', .int .i64 b, .agg (arr8 leaf)] w fun e w' => e = .returned (.tuple #[.slice none 0 0, .iface 70 (.int .i64 k)]) ∧ Below w.heap.size w w' := by
  obtain ⟨v, hv⟩ : ∃ v, v = w.alloc (.cells (arr8 leaf) 28) := ⟨_, rfl⟩
  have hbv : Below w.heap.size w v := by rw [hv]; exact below_alloc _ _
  have HV := Lib.hid hv
  have HK := Lib.hid hk
  clear hv hk
  go_enter Try.func32, Try.ntmps32
  go_wp2_with (go_at_call 41; rw [← HV.out]; refine (check_c hn b v).mono ?_; rintro e w2 ⟨rfl, rfl⟩; rw [HK.out])
  go_ret2
  exact ⟨rfl, hbv⟩

theorem verify_bad {w : World} {A A' : Option Addr} {n c n' c' : Nat} {leaf root : List UInt8} (hn : n' ≤ 9223372036854775807) (b : Int) (k : Int) (hk : checkV n' b = .iface 70 (.int .i64 k)) :
    Calls Try.prog 25 #[.slice A n c, .slice A' n' c', .agg (arr8 root), .int .i64 b, .agg (arr8 leaf)] w fun e w' => e = .returned (.bool false) ∧ Below w.heap.size w w' := by
  obtain ⟨v, hv⟩ : ∃ v, v = (w.alloc (.cells (arr8 root) 28)).alloc (.cells (arr8 leaf) 28) := ⟨_, rfl⟩
  have hbv : Below w.heap.size w v := by rw [hv]; exact ((Below.refl _ _).alloc (Nat.le_refl _) _).alloc (by simp) _
  have HV := Lib.hid hv
  have HK := Lib.hid hk
  clear hv hk
  go_enter Try.func25, Try.ntmps25
  go_wp2_with (go_at_call 41; rw [← HV.out]; refine (check_c hn b v).mono ?_; rintro e w2 ⟨rfl, rfl⟩; rw [HK.out])
  go_ret
  exact ⟨rfl, hbv⟩

theorem arr_off_run {P : Program} {T e : TypeId} {N : Nat} (hT : P.underlying T = some (.array N e)) (hs : ∀ W, (sizeOf e).run P W = .ok 1 W) (hN : 0 < N) (g off : Nat) (W : World) :
    (Instr.sliceAt T (.pointer (some ⟨g, off, none⟩)) none none none).run P W = .ok (.slice (some ⟨g, off, none⟩) N N) W := by
  have ea : P.arrayLen T = N := by simp [Program.arrayLen, hT]
  have ee : P.elem T = e := by simp [Program.elem, hT]
  have h := run_sliceAt_array_all (P := P) W T ⟨g, off, none⟩ (by rw [ea, ee]; exact hT)
  rw [h, ee, hs, ea]
  simp [Result.andThen, slicedAt, Addr.add]

set_option maxHeartbeats 2000000 in
theorem verify_c {w : World} {B B' : Nat} {A A' : Option Addr} {n c c' : Nat} {key xs leaf root : List UInt8} (hk : SlB w B A n c key) (hB : B ≤ w.heap.size) (hn : n ≤ 1099511627776) (hx : SlS w B' A' 32 c' xs) (hB' : B' ≤ w.heap.size) (b : Int) (hb : 0 ≤ b ∧ b < 16) (hl : leaf.length = 32) (hr : root.length = 32) (r : Bool) (hrr : (elt (climbT key xs b leaf) 1 == root) = r) :
    Calls Try.prog 25 #[.slice A n c, .slice A' 32 c', .agg (arr8 root), .int .i64 b, .agg (arr8 leaf)] w fun e w' => e = .returned (.bool r) ∧ Below w.heap.size w w' := by
  obtain ⟨g9, hg9⟩ : ∃ g, g = w.heap.size + 1 := ⟨_, rfl⟩
  obtain ⟨v, hv⟩ : ∃ v, v = (w.alloc (.cells (arr8 root) 28)).alloc (.cells (arr8 leaf) 28) := ⟨_, rfl⟩
  have hbv : Below w.heap.size w v := by rw [hv]; exact ((Below.refl _ _).alloc (Nat.le_refl _) _).alloc (by simp) _
  have b7 : Blk v w.heap.size 28 (arr8 root) := by rw [hv]; exact (Blk.new _ _ _).alloc _
  have b9 : Blk v g9 28 (arr8 leaf) := by
    have := Blk.new (w.alloc (.cells (arr8 root) 28)) 28 (arr8 leaf)
    rw [World.size_alloc] at this
    rw [hv, hg9]; exact this
  have hz := hbv.size
  have HCV := Lib.hid (show checkV 32 b = .nilIface by rw [checkV, if_pos rfl, if_pos hb])
  have HV := Lib.hid hv
  have HG := Lib.hid hg9
  have HXL := Lib.hid (len_climbT (key := key) (leaf := leaf) hx.len hl hb)
  have HC := Lib.hid (climb_c (hk.below (hbv.mono hB)) (Nat.le_trans hB hz) hn (hx.below (hbv.mono hB')) (Nat.le_trans hB' hz) b hb hl)
  have HR := Lib.hid hrr
  have hall := arr_off_run (P := Try.prog) (T := 28) Try.underlying28 size1 (by omega) w.heap.size 0
  clear hv hk hx hg9 hrr
  go_enter Try.func25, Try.ntmps25
  go_wp2_with (first
    | (go_at_call 41; rw [← HV.out, ← HG.out]; refine (check_c (by omega) b v).mono ?_; rintro e w2 ⟨rfl, rfl⟩; rw [HCV.out])
    | ((with_reducible show wpList _ _ _ (Oper.mk _ (Op.load 28 (.tmp 9)) _ _ _ _ :: _) _ _); refine wpList_load_whole (by rfl) 28 (.tmp 9) rfl g9 rfl (arr8 leaf) agg44 (by rw [size_arr8, hl]) 28 b9 ?_)
    | (go_at_call 42; refine HC.out.mono ?_; rintro e v3 ⟨g, c2, rfl, h3, hb3⟩; have hb73 := b7.below hb3 b7.lt; have hl1 := len_elt HXL.out (i := 1) (by omega); have d1 := OwS.elt_ h3 (i := 1) (by omega); have hg3 := OwS.lt h3 (by omega); have hall1 := arr_off_run (P := Try.prog) (T := 28) Try.underlying28 size1 (by omega) g 32; have hc2 := OwS.le h3; have hs1 : SlB v3 v3.heap.size (some ⟨g, 32, none⟩) 32 32 (elt (climbT key xs b leaf) 1) := ⟨by simp [hl1], Nat.le_refl _, by simp [maxLen], fun _ => ⟨g, 32, rfl, hg3, fun j u hu => d1 j u (by simpa [arr8] using hu)⟩⟩; clear d1 h3 HC))
  have hw3 := hbv.trans (hb3.mono hz)
  have hz3 := hw3.size
  have HS1 := Lib.hid hs1
  clear hs1
  refine wp_region_rel (fun W W' => Below W.heap.size W W') (fun W => Below v3.heap.size v3 W)
    [Det (.slice (some ⟨g, 0, none⟩) 32 c2), Det (.pointer (some ⟨g, 32, none⟩)), Det (.slice (some ⟨g, 32, none⟩) 32 32), Det (.slice (some ⟨w.heap.size, 0, none⟩) 32 32), Det (.bool r), Det (.bool r)]
    [[], [(0, some 21)], [(1, some 22)], [], [(2, some 23), (3, some 24)], [(4, some 25)]]
    [[], [0], [0, 1], [], [0, 1, 2, 3], [0, 1, 2, 3, 4]]
    [(0, some 21), (1, some 22), (2, some 23), (3, some 24), (4, some 25), (5, some 10)] (by kernel_rfl) (by kernel_rfl) (fun W W' h1 h2 => h1.trans (h2.mono h1.size)) ((Below.refl _ _).drew) ?_ ?_ ?_
  · exact (AllMono.cons Det.later (AllMono.cons Det.later (AllMono.cons Det.later (AllMono.cons Det.later (AllMono.cons Det.later (AllMono.cons Det.later AllMono.nil))))))
  · refine AllOb.cons ?_ (AllOb.cons ?_ (AllOb.cons ?_ (AllOb.cons ?_ (AllOb.cons ?_ (AllOb.cons ?_ (AllOb.nil))))))
    · intro uF W hC' hU aF hF
      have hC : Below v3.heap.size v3 W := hC'
      clear hC'
      simp only [puts] at hF
      subst hF
      go_wp2_with (fail)
      exact ⟨rfl, rfl, (Below.refl _ _), rfl⟩
    · intro uF W hC' hU aF hF
      have hC : Below v3.heap.size v3 W := hC'
      clear hC'
      have h21 : (Det (.slice (some ⟨g, 0, none⟩) 32 c2)) (uF 0) W := hU.1
      clear hU
      simp only [puts, Act.put, List.setIfInBounds_toArray, List.set_cons_zero, List.set_cons_succ] at hF
      generalize uF 0 = x21 at h21 hF
      obtain rfl : x21 = (.slice (some ⟨g, 0, none⟩) 32 c2) := h21
      subst hF
      go_wp2_with (fail)
      exact ⟨rfl, rfl, (Below.refl _ _), rfl⟩
    · intro uF W hC' hU aF hF
      have hC : Below v3.heap.size v3 W := hC'
      clear hC'
      have h22 : (Det (.pointer (some ⟨g, 32, none⟩))) (uF 1) W := hU.1
      clear hU
      simp only [puts, Act.put, List.setIfInBounds_toArray, List.set_cons_zero, List.set_cons_succ] at hF
      generalize uF 1 = x22 at h22 hF
      obtain rfl : x22 = (.pointer (some ⟨g, 32, none⟩)) := h22
      subst hF
      go_wp2_with (fail)
      exact ⟨rfl, rfl, (Below.refl _ _), rfl⟩
    · intro uF W hC' hU aF hF
      have hC : Below v3.heap.size v3 W := hC'
      clear hC'
      simp only [puts] at hF
      subst hF
      go_wp2_with (fail)
      exact ⟨rfl, rfl, (Below.refl _ _), rfl⟩
    · intro uF W hC' hU aF hF
      have hC : Below v3.heap.size v3 W := hC'
      clear hC'
      have h23 : (Det (.slice (some ⟨g, 32, none⟩) 32 32)) (uF 2) W := hU.1
      have h24 : (Det (.slice (some ⟨w.heap.size, 0, none⟩) 32 32)) (uF 3) W := hU.2.1
      clear hU
      simp only [puts, Act.put, List.setIfInBounds_toArray, List.set_cons_zero, List.set_cons_succ] at hF
      generalize uF 2 = x23 at h23 hF
      generalize uF 3 = x24 at h24 hF
      obtain rfl : x23 = (.slice (some ⟨g, 32, none⟩) 32 32) := h23
      obtain rfl : x24 = (.slice (some ⟨w.heap.size, 0, none⟩) 32 32) := h24
      subst hF
      go_wp2_with ((go_at_call 43; refine (equal_c (HS1.out.below hC) (sum_sl (hb73.below hC hb73.lt) hr) r HR.out).mono ?_; rintro e W1 ⟨rfl, rfl⟩))
      exact ⟨rfl, rfl, (Below.refl _ _), rfl⟩
    · intro uF W hC' hU aF hF
      have hC : Below v3.heap.size v3 W := hC'
      clear hC'
      have h25 : (Det (.bool r)) (uF 4) W := hU.1
      clear hU
      simp only [puts, Act.put, List.setIfInBounds_toArray, List.set_cons_zero, List.set_cons_succ] at hF
      generalize uF 4 = x25 at h25 hF
      obtain rfl : x25 = (.bool r) := h25
      subst hF
      go_wp2_with (fail)
      exact ⟨rfl, rfl, (Below.refl _ _), rfl⟩
  intro uF v4 hC' hU aF hF
  have hCv4 : Below v3.heap.size v3 v4 := hC'
  clear hC'
  have h10 : (Det (.bool r)) (uF 5) v4 := hU.2.2.2.2.2.1
  clear hU
  simp only [puts, Act.put, List.setIfInBounds_toArray, List.set_cons_zero, List.set_cons_succ] at hF
  generalize uF 0 = x21 at hF
  generalize uF 1 = x22 at hF
  generalize uF 2 = x23 at hF
  generalize uF 3 = x24 at hF
  generalize uF 4 = x25 at hF
  generalize uF 5 = x10 at h10 hF
  obtain rfl : x10 = (.bool r) := h10
  subst hF
  go_wp2_with fail
  go_ret
  exact ⟨rfl, hw3.trans (hCv4.mono hz3)⟩
end Go.Proofs.Ytdifepfplfkfoaa

