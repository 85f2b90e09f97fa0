/-
  PduStatus: which status every error has, and which frames reject and reply (printed by wip/gen_status.py).
-/
import Derived.Test.YtjjpifppdjpcnaaStatus
import Derived.Test.YtjjpifppdjpcnaaOver
namespace Go.Proofs.Ytjjpifppdjpcnaa.pduStatus
open Go.RowKit
set_option linter.unusedVariables false
set_option linter.unusedSimpArgs false
set_option maxRecDepth 100000

set_option maxHeartbeats 2000000 in
theorem rep_big (n code : Int) {A : Option Addr} {m c : Nat} {ds : List UInt8} (number : Int) {w : World} (hd : SlB w w.heap.size A m c ds) (hbi : (4096 : Int) < (m : Int)) :
    Calls Try.prog 22 #[.int .i64 n, .int .i64 code, .slice A m c, .int .i64 number] w fun e w' => e = .returned (.bool true) ∧ Below w.heap.size w w' := by
  have hmx := hd.mx
  have hmc := hd.le
  have HD := Lib.hid hd
  clear hd
  go_enter Try.func22, Try.ntmps22
  go_wp2_with fail
  go_ret
  exact ⟨rfl, Below.refl _ _⟩

set_option maxHeartbeats 2000000 in
theorem rep_zero (n code : Int) {A : Option Addr} {m c : Nat} {ds : List UInt8} (number : Int) {w : World} (hd : SlB w w.heap.size A m c ds) (hbi : ¬ (4096 : Int) < (m : Int)) {u : Nat} (hu : IntKind.u64.wrap code = (u : Int)) (htm : ((u : Int)).tmod 20 = 0) (hmd : (u : Int) % 20 = 0) :
    Calls Try.prog 22 #[.int .i64 n, .int .i64 code, .slice A m c, .int .i64 number] w fun e w' => e = .returned (.bool true) ∧ Below w.heap.size w w' := by
  have hmx := hd.mx
  have hmc := hd.le
  have HD := Lib.hid hd
  clear hd
  have hwr : wrote (some (⟨w.heap.size, 0, none⟩ : Addr)) (m + 2) = some w.heap.size := by simp [wrote]
  have HWR := Lib.hid hwr
  clear hwr
  go_enter Try.func22, Try.ntmps22
  go_wp2_with (first
    | (go_at_call 15; refine (copy_c HD.out (Nat.le_refl _) (by omega)).mono ?_; rintro e w1 ⟨rfl, hoc, hb1⟩; have hz1 := hb1.size; have HOC := Lib.hid (copy_own hoc HD.out.len); have hcb : w.heap.size < w1.heap.size := own_lt hoc (by omega); clear hoc)
    | (go_at_call 44; refine (reply_nil n HOC.out.sl (Nat.le_refl _) (by omega)).mono ?_; rintro e w2 ⟨A2, c2, rfl, ho2, hb2⟩; have hw2 := hb1.trans (hb2.mono hz1); have hz12 := hb2.size; have hz2 := hw2.size; have bn2 := Blk.new w2 24 #[.int .i64 0, .int .i64 0, .int .i64 0, .slice none 0 0])
    | ((with_reducible show wpList _ _ _ (Oper.mk (some 10) (Op.alloc 24) _ _ _ _ :: _) _ _); refine wpList_alloc_agg rfl 24 rfl #[.int .i64 0, .int .i64 0, .int .i64 0, .slice none 0 0] zeroFr ?_)
    | ((with_reducible show wpList _ _ _ (Oper.mk none (Op.store 24 (.tmp 10) (.tmp 23)) _ _ _ _ :: _) _ _); refine wpList_store_whole rfl 24 (.tmp 10) (.tmp 23) rfl (w2.heap.size) rfl [.int .i64 6, .int .i64 n, .int .i64 0, .slice A2 m c2] rfl aggFr rfl _ _ bn2 rfl (by simp [Value.oneCell']) ?_; intro v3 b10 g3 s3; have h23 : Below w2.heap.size w2 v3 := (below_alloc _ _).grown g3 (by simp) (fun k hk => by cases hk; exact Nat.le_refl _); have hw3 := hw2.trans (h23.mono hz2); have hz3 := hw3.size; have ho3 := ho2.below h23; have HOC3 := Lib.hid ((HOC.out.below hb2).below h23); have hg23 := b10.lt; clear g3 s3)
    | (go_at_call 45; refine (refstatus_c 0 _).mono ?_; rintro e w' ⟨rfl, rfl⟩; rw [show rstV 0 = 0 from rfl]; have bn3 := Blk.new v3 24 #[.int .i64 0, .int .i64 0, .int .i64 0, .slice none 0 0])
    | ((with_reducible show wpList _ _ _ (Oper.mk (some 11) (Op.alloc 24) _ _ _ _ :: _) _ _); refine wpList_alloc_agg rfl 24 rfl #[.int .i64 0, .int .i64 0, .int .i64 0, .slice none 0 0] zeroFr ?_)
    | ((with_reducible show wpList _ _ _ (Oper.mk none (Op.store 24 (.tmp 11) (.tmp 34)) _ _ _ _ :: _) _ _); refine wpList_store_whole rfl 24 (.tmp 11) (.tmp 34) rfl (v3.heap.size) rfl [.int .i64 6, .int .i64 n, .int .i64 0, .slice none 0 0] rfl aggFr rfl _ _ bn3 rfl (by simp [Value.oneCell']) ?_; intro v4 b11 g4 s4; have h34 : Below v3.heap.size v3 v4 := (below_alloc _ _).grown g4 (by simp) (fun k hk => by cases hk; exact Nat.le_refl _); have hw4 := hw3.trans (h34.mono hz3); have hz4 := hw4.size; have hg34 := b11.lt; have k11 : v4.cell? ⟨v3.heap.size, 3, none⟩ = some (.slice none 0 0) := (by rw [b11.cell]; rfl); have f11 := b11.frozen 3; obtain ⟨V5, hV5⟩ : ∃ V, V = v4.setCell ⟨v3.heap.size, 3, none⟩ (.slice A m c) := ⟨_, rfl⟩; have b115 : Blk V5 v3.heap.size 24 #[.int .i64 6, .int .i64 n, .int .i64 0, .slice A m c] := (by rw [hV5]; simpa using b11.set_ 3 (.slice A m c)); have b105 : Blk V5 w2.heap.size 24 #[.int .i64 6, .int .i64 n, .int .i64 0, .slice A2 m c2] := (by rw [hV5]; exact (b10.below h34 b10.lt).far (by show w2.heap.size ≠ v3.heap.size; omega) _); have ho5 : OwB V5 w1.heap.size A2 m c2 ds := (by rw [hV5]; exact Row.keepRow (ho3.below h34) (grownBy_setCell _ v3.heap.size 3 _) (by rcases Row.wrote_lt ho3 with h1 | ⟨g', _, h1, _, h2, _⟩; exact .inl h1; right; rw [h1]; intro e; have e := Option.some.inj e; omega)); have HOC5 : Hid (OwB V5 w.heap.size (some ⟨w.heap.size, 0, none⟩) m (m + 2) ds) := Lib.hid (by rw [hV5]; exact Row.keepRow (HOC3.out.below h34) (grownBy_setCell _ v3.heap.size 3 _) (.inr (by rw [HWR.out]; intro e; have e := Option.some.inj e; omega))); have hw5 : Below w.heap.size w V5 := (by rw [hV5]; exact hw4.setCell (p := ⟨v3.heap.size, 3, none⟩) hz3 _); have hz5 := hw5.size; clear g4 s4)
    | (go_at_call 47; rw [← hV5]; refine (over_c HOC5.out (by omega)).mono ?_; rintro e w6 ⟨rfl, gr6⟩; rw [HWR.out] at gr6; have hw6 := hw5.grown gr6 hz5 (fun k hk => by cases hk; exact Nat.le_refl _); have hz6 := hw6.size; have b106 := b105.grown gr6 (by simp; omega); have b116 := b115.grown gr6 (by simp; omega); have ho6 := own_grown ho5 hcb gr6)
    | ((with_reducible show wpList _ _ _ (Oper.mk (some 47) (Op.load 24 _) _ _ _ _ :: _) _ _);  refine wpList_load_whole (by rfl) 24 (.tmp 10) rfl (w2.heap.size) rfl #[.int .i64 6, .int .i64 n, .int .i64 0, .slice A2 m c2] aggFr rfl _ b106 ?_)
    | ((with_reducible show wpList _ _ _ (Oper.mk (some 48) (Op.load 24 _) _ _ _ _ :: _) _ _);  refine wpList_load_whole (by rfl) 24 (.tmp 11) rfl (v3.heap.size) rfl #[.int .i64 6, .int .i64 n, .int .i64 0, .slice A m c] aggFr rfl _ b116 ?_)
    | (go_at_call 25; have hz8b := hz8; clear hz8b; refine (same17_c 7 0 number (SlB.nil w8 0 none) (SlB.nil w8 0 none) (Nat.zero_le _) (Nat.zero_le _)).mono ?_; rintro e w9 ⟨rfl, hb9⟩)
    | (go_at_call 25; refine (same17_c 6 n 0 (OwB.sl ho6) (HD.out.below hw6) (Nat.le_refl _) hz6).mono ?_; rintro e w7 ⟨rfl, hb7⟩; have hw7 := hw6.trans (hb7.mono hz6); have hz7 := hw7.size)
    | (go_at_call 46; refine (status_nil _).mono ?_; rintro e w' ⟨rfl, rfl⟩)
    | (go_at_call 48; refine (reject_c number _).mono ?_; rintro e w8 ⟨rfl, hb8⟩; have hw8 := hw7.trans (hb8.mono hz7); have hz8 := hw8.size))
  go_ret
  exact ⟨rfl, hw8.trans (hb9.mono hz8)⟩

set_option maxHeartbeats 2000000 in
theorem rep_pos (n code : Int) {A : Option Addr} {m c : Nat} {ds : List UInt8} (number : Int) {w : World} (hd : SlB w w.heap.size A m c ds) (hbi : ¬ (4096 : Int) < (m : Int)) {u kk : Nat} (hu : IntKind.u64.wrap code = (u : Int)) (htm : ((u : Int)).tmod 20 = (kk : Int)) (hmd : (u : Int) % 20 = (kk : Int)) (hk20 : (kk : Int) < 20) (hk0 : (0 : Int) < (kk : Int)) :
    Calls Try.prog 22 #[.int .i64 n, .int .i64 code, .slice A m c, .int .i64 number] w fun e w' => e = .returned (.bool true) ∧ Below w.heap.size w w' := by
  obtain ⟨s, hs⟩ : ∃ s, s = stV (kk : Int) := ⟨_, rfl⟩
  have HS := Lib.hid hs
  have HR := Lib.hid (show rstV (kk : Int) = s by rw [rstV, if_neg (by omega), hs])
  clear hs
  have hmx := hd.mx
  have hmc := hd.le
  have HD := Lib.hid hd
  clear hd
  have hwr : wrote (some (⟨w.heap.size, 0, none⟩ : Addr)) (m + 2) = some w.heap.size := by simp [wrote]
  have HWR := Lib.hid hwr
  clear hwr
  go_enter Try.func22, Try.ntmps22
  go_wp2_with (first
    | (go_at_call 15; refine (copy_c HD.out (Nat.le_refl _) (by omega)).mono ?_; rintro e w1 ⟨rfl, hoc, hb1⟩; have hz1 := hb1.size; have HOC := Lib.hid (copy_own hoc HD.out.len); have hcb : w.heap.size < w1.heap.size := own_lt hoc (by omega); clear hoc)
    | (go_at_call 44; have hz3b := hz3; clear hz3b; refine (reply_err n (kk : Int) _).mono ?_; rintro e w4 ⟨rfl, hb4⟩; rw [← HS.out]; have hw4 := hw3.trans (hb4.mono hz3); have hz4 := hw4.size; have b104 := b10.below hb4 b10.lt)
    | (go_at_call 44; refine (reply_nil n HOC.out.sl (Nat.le_refl _) (by omega)).mono ?_; rintro e w2 ⟨A2, c2, rfl, ho2, hb2⟩; have hw2 := hb1.trans (hb2.mono hz1); have hz12 := hb2.size; have hz2 := hw2.size; have bn2 := Blk.new w2 24 #[.int .i64 0, .int .i64 0, .int .i64 0, .slice none 0 0])
    | ((with_reducible show wpList _ _ _ (Oper.mk (some 10) (Op.alloc 24) _ _ _ _ :: _) _ _); refine wpList_alloc_agg rfl 24 rfl #[.int .i64 0, .int .i64 0, .int .i64 0, .slice none 0 0] zeroFr ?_)
    | ((with_reducible show wpList _ _ _ (Oper.mk none (Op.store 24 (.tmp 10) (.tmp 23)) _ _ _ _ :: _) _ _); refine wpList_store_whole rfl 24 (.tmp 10) (.tmp 23) rfl (w2.heap.size) rfl [.int .i64 6, .int .i64 n, .int .i64 0, .slice A2 m c2] rfl aggFr rfl _ _ bn2 rfl (by simp [Value.oneCell']) ?_; intro v3 b10 g3 s3; have h23 : Below w2.heap.size w2 v3 := (below_alloc _ _).grown g3 (by simp) (fun k hk => by cases hk; exact Nat.le_refl _); have hw3 := hw2.trans (h23.mono hz2); have hz3 := hw3.size; have ho3 := ho2.below h23; have HOC3 := Lib.hid ((HOC.out.below hb2).below h23); have hg23 := b10.lt; clear g3 s3)
    | ((with_reducible show wpList _ _ _ (Oper.mk none (Op.store 24 (.tmp 10) (.tmp 30)) _ _ _ _ :: _) _ _); refine wpList_store_whole rfl 24 (.tmp 10) (.tmp 30) rfl (w2.heap.size) rfl [.int .i64 6, .int .i64 n, .int .i64 s, .slice none 0 0] rfl aggFr rfl _ _ b104 rfl (by simp [Value.oneCell']) ?_; intro v5 b105 g5 s5; have hw5 := hw4.grown g5 hz4 (fun k hk => by cases hk; exact hz2); have hz5 := hw5.size; have HOC5 : Hid (OwB v5 w.heap.size (some ⟨w.heap.size, 0, none⟩) m (m + 2) ds) := Lib.hid (Row.keepRow (HOC3.out.below hb4) g5 (.inr (by rw [HWR.out]; intro e; have e := Option.some.inj e; omega))); have hg25 := b105.lt; clear g5 s5)
    | (go_at_call 45; refine (refstatus_c (kk : Int) _).mono ?_; rintro e w' ⟨rfl, rfl⟩; rw [HR.out]; have bn5 := Blk.new v5 24 #[.int .i64 0, .int .i64 0, .int .i64 0, .slice none 0 0])
    | ((with_reducible show wpList _ _ _ (Oper.mk (some 11) (Op.alloc 24) _ _ _ _ :: _) _ _); refine wpList_alloc_agg rfl 24 rfl #[.int .i64 0, .int .i64 0, .int .i64 0, .slice none 0 0] zeroFr ?_)
    | ((with_reducible show wpList _ _ _ (Oper.mk none (Op.store 24 (.tmp 11) (.tmp 34)) _ _ _ _ :: _) _ _); refine wpList_store_whole rfl 24 (.tmp 11) (.tmp 34) rfl (v5.heap.size) rfl [.int .i64 6, .int .i64 n, .int .i64 s, .slice none 0 0] rfl aggFr rfl _ _ bn5 rfl (by simp [Value.oneCell']) ?_; intro v6 b116 g6 s6; have h56 : Below v5.heap.size v5 v6 := (below_alloc _ _).grown g6 (by simp) (fun k hk => by cases hk; exact Nat.le_refl _); have hv6 := hw5.trans (h56.mono hz5); have hzv6 := hv6.size; have b106' := b105.below h56 b105.lt; have HOC6 := Lib.hid (HOC5.out.below h56); have hg56 := b116.lt; clear g6 s6))
  refine wp_region_rel (fun W W' => Below W.heap.size W W') (fun W => Below v6.heap.size v6 W)
    [Det (.int .i64 (kk : Int)), Det (.iface 35 (.int .i64 (kk : Int))), Det (.int .i64 s), Det (.pointer (some ⟨v5.heap.size, 2, none⟩)), Det (.int .i64 s), Det (.bool false)]
    [[], [(0, some 39)], [(1, some 40)], [], [(3, some 42)], [(2, some 41), (4, some 43)]]
    [[], [0], [0, 1], [], [3], [0, 1, 2, 3, 4]]
    [(0, some 39), (1, some 40), (2, some 41), (3, some 42), (4, some 43), (5, some 44)] (by kernel_rfl) (by kernel_rfl) (fun W W' h1 h2 => h1.trans (h2.mono h1.size)) ((Below.refl _ _).drew) ?_ ?_ ?_
  · exact (AllMono.cons Det.later (AllMono.cons Det.later (AllMono.cons Det.later (AllMono.cons Det.later (AllMono.cons Det.later (AllMono.cons Det.later AllMono.nil))))))
  · refine AllOb.cons ?_ (AllOb.cons ?_ (AllOb.cons ?_ (AllOb.cons ?_ (AllOb.cons ?_ (AllOb.cons ?_ (AllOb.nil))))))
    · intro uF W hC' hU aF hF
      have hC : Below v6.heap.size v6 W := hC'
      clear hC'
      simp only [puts] at hF
      subst hF
      go_wp2_with (fail)
      exact ⟨rfl, rfl, (Below.refl _ _), rfl⟩
    · intro uF W hC' hU aF hF
      have hC : Below v6.heap.size v6 W := hC'
      clear hC'
      have h39 : (Det (.int .i64 (kk : Int))) (uF 0) W := hU.1
      clear hU
      simp only [puts, Act.put, List.setIfInBounds_toArray, List.set_cons_zero, List.set_cons_succ] at hF
      generalize uF 0 = x39 at h39 hF
      obtain rfl : x39 = (.int .i64 (kk : Int)) := h39
      subst hF
      go_wp2_with (fail)
      exact ⟨rfl, rfl, (Below.refl _ _), rfl⟩
    · intro uF W hC' hU aF hF
      have hC : Below v6.heap.size v6 W := hC'
      clear hC'
      have h40 : (Det (.iface 35 (.int .i64 (kk : Int)))) (uF 1) W := hU.1
      clear hU
      simp only [puts, Act.put, List.setIfInBounds_toArray, List.set_cons_zero, List.set_cons_succ] at hF
      generalize uF 1 = x40 at h40 hF
      obtain rfl : x40 = (.iface 35 (.int .i64 (kk : Int))) := h40
      subst hF
      go_wp2_with ((go_at_call 46; refine (status_c (kk : Int) _).mono ?_; rintro e W1 ⟨rfl, rfl⟩; rw [← HS.out]))
      exact ⟨rfl, rfl, (Below.refl _ _), rfl⟩
    · intro uF W hC' hU aF hF
      have hC : Below v6.heap.size v6 W := hC'
      clear hC'
      simp only [puts] at hF
      subst hF
      go_wp2_with (fail)
      exact ⟨rfl, rfl, (Below.refl _ _), rfl⟩
    · intro uF W hC' hU aF hF
      have hC : Below v6.heap.size v6 W := hC'
      clear hC'
      have h42 : (Det (.pointer (some ⟨v5.heap.size, 2, none⟩))) (uF 3) W := hU.1
      clear hU
      simp only [puts, Act.put, List.setIfInBounds_toArray, List.set_cons_zero, List.set_cons_succ] at hF
      generalize uF 3 = x42 at h42 hF
      obtain rfl : x42 = (.pointer (some ⟨v5.heap.size, 2, none⟩)) := h42
      subst hF
      have q2 : W.cell? ⟨v5.heap.size, 2, none⟩ = some (.int .i64 s) := by rw [(b116.below hC b116.lt).cell]; rfl
      go_wp2_with (fail)
      exact ⟨rfl, rfl, (Below.refl _ _), rfl⟩
    · intro uF W hC' hU aF hF
      have hC : Below v6.heap.size v6 W := hC'
      clear hC'
      have h41 : (Det (.int .i64 s)) (uF 2) W := hU.1
      have h43 : (Det (.int .i64 s)) (uF 4) W := hU.2.1
      clear hU
      simp only [puts, Act.put, List.setIfInBounds_toArray, List.set_cons_zero, List.set_cons_succ] at hF
      generalize uF 2 = x41 at h41 hF
      generalize uF 4 = x43 at h43 hF
      obtain rfl : x41 = (.int .i64 s) := h41
      obtain rfl : x43 = (.int .i64 s) := h43
      subst hF
      go_wp2_with (fail)
      exact ⟨rfl, rfl, (Below.refl _ _), rfl⟩
  intro uF wX hC' hU aF hF
  have hCwX : Below v6.heap.size v6 wX := hC'
  clear hC'
  have h44 : (Det (.bool false)) (uF 5) wX := hU.2.2.2.2.2.1
  clear hU
  simp only [puts, Act.put, List.setIfInBounds_toArray, List.set_cons_zero, List.set_cons_succ] at hF
  generalize uF 0 = x39 at hF
  generalize uF 1 = x40 at hF
  generalize uF 2 = x41 at hF
  generalize uF 3 = x42 at hF
  generalize uF 4 = x43 at hF
  generalize uF 5 = x44 at h44 hF
  obtain rfl : x44 = (.bool false) := h44
  subst hF
  have hwX := hv6.trans (hCwX.mono hzv6)
  have hzX := hwX.size
  have b107 := b106'.below hCwX b106'.lt
  have b117 := b116.below hCwX b116.lt
  have HOC7 := Lib.hid (HOC6.out.below hCwX)
  go_wp2_with (first
    | (go_at_call 47;  refine (over_c HOC7.out (by omega)).mono ?_; rintro e w6 ⟨rfl, gr6⟩; rw [HWR.out] at gr6; have hw6 := hwX.grown gr6 hzX (fun k hk => by cases hk; exact Nat.le_refl _); have hz6 := hw6.size; have b106 := b107.grown gr6 (by simp; omega); have b117' := b117.grown gr6 (by simp; omega))
    | ((with_reducible show wpList _ _ _ (Oper.mk (some 47) (Op.load 24 _) _ _ _ _ :: _) _ _);  refine wpList_load_whole (by rfl) 24 (.tmp 10) rfl (w2.heap.size) rfl #[.int .i64 6, .int .i64 n, .int .i64 s, .slice none 0 0] aggFr rfl _ b106 ?_)
    | ((with_reducible show wpList _ _ _ (Oper.mk (some 48) (Op.load 24 _) _ _ _ _ :: _) _ _);  refine wpList_load_whole (by rfl) 24 (.tmp 11) rfl (v5.heap.size) rfl #[.int .i64 6, .int .i64 n, .int .i64 s, .slice none 0 0] aggFr rfl _ b117' ?_)
    | (go_at_call 25; have hz8b := hz8; clear hz8b; refine (same17_c 7 0 number (SlB.nil w8 0 none) (SlB.nil w8 0 none) (Nat.zero_le _) (Nat.zero_le _)).mono ?_; rintro e w9 ⟨rfl, hb9⟩)
    | (go_at_call 25; refine (same17_c 6 n s (SlB.nil w6 0 none) (SlB.nil w6 0 none) (Nat.zero_le _) (Nat.zero_le _)).mono ?_; rintro e w7 ⟨rfl, hb7⟩; have hw7 := hw6.trans (hb7.mono hz6); have hz7 := hw7.size)
    | (go_at_call 46; refine (status_nil _).mono ?_; rintro e w' ⟨rfl, rfl⟩)
    | (go_at_call 48; refine (reject_c number _).mono ?_; rintro e w8 ⟨rfl, hb8⟩; have hw8 := hw7.trans (hb8.mono hz7); have hz8 := hw8.size))
  go_ret
  exact ⟨rfl, hw8.trans (hb9.mono hz8)⟩

theorem replies_c (n code : Int) {A : Option Addr} {m c : Nat} {ds : List UInt8} (number : Int) {w : World} (hd : SlB w w.heap.size A m c ds) :
    Calls Try.prog 22 #[.int .i64 n, .int .i64 code, .slice A m c, .int .i64 number] w fun e w' => e = .returned (.bool true) ∧ Below w.heap.size w w' := by
  by_cases hbi : (4096 : Int) < (m : Int)
  · exact rep_big n code number hd hbi
  obtain ⟨u, hu⟩ : ∃ u : Nat, IntKind.u64.wrap code = (u : Int) := ⟨(IntKind.u64.wrap code).toNat, by rw [Int.toNat_of_nonneg (by rw [wrap_u64]; omega)]⟩
  obtain ⟨kk, hkk⟩ : ∃ kk : Nat, kk = u % 20 := ⟨_, rfl⟩
  have htm : ((u : Int)).tmod 20 = (kk : Int) := by rw [Int.tmod_eq_emod_of_nonneg (by omega)]; omega
  have hmd : (u : Int) % 20 = (kk : Int) := by omega
  by_cases hk0 : kk = 0
  · rw [hk0] at htm hmd
    exact rep_zero n code number hd hbi hu htm hmd
  · exact rep_pos n code number hd hbi hu htm hmd (by omega) (by omega)

theorem walk (cs0 : List Value) (w : World) (R0 : Rds w (.cons (.int .i64) (.cons (.int .i64) (.cons (.slice (.int .u8) 1 1) (.cons (.int .i64) .nil)))) cs0) :
    Calls Try.prog 5 #[.agg cs0.toArray] w fun e w' => e = .returned (.bool true) ∧ Below w.heap.size w w' := by
  obtain ⟨_, _, rfl, r0, _, _, rfl, r1, _, _, rfl, r2, _, _, rfl, r3, rfl⟩ := R0
  obtain ⟨n, rfl, hx0⟩ := r0
  obtain ⟨code, rfl, hx1⟩ := r1
  obtain ⟨A, m, c, ds, rfl, w2, y2⟩ := Rds.bytes r2
  obtain ⟨number, rfl, hx3⟩ := r3
  clear r2
  simp only [List.cons_append, List.nil_append, List.append_nil]
  obtain ⟨v, hv⟩ : ∃ v, v = w.alloc (.cells #[.int .i64 n, .int .i64 code, .slice A m c, .int .i64 number] 43) := ⟨_, rfl⟩
  have b1 : Blk v w.heap.size 43 #[.int .i64 n, .int .i64 code, .slice A m c, .int .i64 number] := by rw [hv]; exact Blk.new _ _ _
  have hbv : Below w.heap.size w v := by rw [hv]; exact below_alloc _ _
  have hz := hbv.size
  have e0 : v.cell? ⟨w.heap.size, 0, none⟩ = some (.int .i64 n) := by rw [b1.cell]; rfl
  have e1 : v.cell? ⟨w.heap.size, 1, none⟩ = some (.int .i64 code) := by rw [b1.cell]; rfl
  have e2 : v.cell? ⟨w.heap.size, 2, none⟩ = some (.slice A m c) := by rw [b1.cell]; rfl
  have e3 : v.cell? ⟨w.heap.size, 3, none⟩ = some (.int .i64 number) := by rw [b1.cell]; rfl
  have HD := Lib.hid ((w2.below hbv).more hz)
  have HV := Lib.hid hv
  clear hv w2 b1
  go_enter Try.func5, Try.ntmps5
  go_wp2_with (go_at_call 22; rw [← HV.out]; refine (replies_c n code number HD.out).mono ?_; rintro e w3 ⟨rfl, hb3⟩)
  go_ret
  exact ⟨rfl, hbv.trans (hb3.mono hz)⟩

end Go.Proofs.Ytjjpifppdjpcnaa.pduStatus

