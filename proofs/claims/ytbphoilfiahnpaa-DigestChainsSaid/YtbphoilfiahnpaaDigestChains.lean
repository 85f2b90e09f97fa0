/-
  DigestChains: a digest is the beginning with all pieces taken.
-/
import Derived.Test.YtbphoilfiahnpaaOfUse
import Derived.Test.YtbphoilfiahnpaaRefOf
import Derived.Deep.RegionHeldLaw
namespace Go.Proofs.Ytbphoilfiahnpaa.digestChains
open Go.RowKit Go.Shelf
set_option linter.unusedVariables false
set_option maxRecDepth 100000
attribute [local go_sem] Oper.semAt_some

theorem build44 (w : World) : (Instr.build 44 #[]).run Try.prog w = .ok (.agg (arr8 (z8' 32))) w := by kernel_rfl

theorem big_walk (A0 : Option Addr) (n0 c0 : Nat) (w : World) (h0 : n0 ≤ 140737488351232) (hbig : ¬ n0 ≤ 8192) :
    Calls Try.prog 11 #[.slice A0 n0 c0] w fun e w' => e = .returned (.bool true) ∧ Below w.heap.size w w' := by
  have hni : (8192 : Int) < (n0 : Int) := by omega
  have hi0 := nil0
  go_enter Try.func11, Try.ntmps11
  go_wp2_with (go_at_call 33; with_reducible refine (of_nil _).mono ?_; rintro e w1 ⟨rfl, hb1⟩)
  go_ret
  exact ⟨rfl, hb1⟩

set_option maxHeartbeats 4000000 in
theorem walk (A0 : Option Addr) (n0 c0 : Nat) (bs0 : List UInt8) (w : World) (w0 : SlB w w.heap.size A0 n0 c0 bs0) (y0 : c0 ≤ 140737488351232) :
    Calls Try.prog 11 #[.slice A0 n0 c0] w fun e w' => e = .returned (.bool true) ∧ Below w.heap.size w w' := by
  by_cases hbig : n0 ≤ 8192
  rotate_left
  · exact big_walk A0 n0 c0 w (by have := w0.le; omega) hbig
  have hni : ¬ (8192 : Int) < (n0 : Int) := by omega
  have hni2 : (n0 : Int) ≤ 8192 := by omega
  have hdec : decide ((8192 : Int) < (n0 : Int)) = false := decide_eq_false hni
  have hi0 := nil0
  have W0 := Lib.hid w0
  have hl3 := w0.len
  clear w0 y0
  refine calls_of_wp_marks Try.func11 rfl ?_
  simp only [Try.ntmps11, List.size_toArray, List.length_cons, List.length_nil, Nat.reduceAdd, Nat.reduceSub, Array.replicate_succ, Array.replicate_zero, List.push_toArray, List.append_toArray, List.nil_append, List.cons_append]
  go_wp2_with (first
    | (go_at_call 33; with_reducible refine (of_nil _).mono ?_; rintro e w1 ⟨rfl, hb1⟩; have hz1 := hb1.size)
    | (go_at_call 23; refine (begin_c _).mono ?_; rintro e w2 ⟨rfl, hb2⟩; have b2 := Blk.new w2 26 (arr32 (z32 8)))
    | ((with_reducible show wpList _ _ _ (Oper.mk _ (Op.alloc 26) _ _ _ _ :: _) _ _); refine wpList_alloc_agg rfl 26 rfl (arr32 (z32 8)) zero26 ?_; (try rw [World.size_alloc]))
    | ((with_reducible show wpList _ _ _ (Oper.mk none (Op.store 26 _ _) _ _ _ _ :: _) _ _); refine wpList_store32 rfl 26 (.tmp 3) (.tmp 13) rfl w2.heap.size rfl H8 rfl agg26 len_H8 _ _ b2 (by rw [size_arr32, len_z32]) ?_; intro w3 hb3 hg3 hs3)
    | (go_at_call 36; refine (pieces_c _ _ _ _).mono ?_; rintro e w4 ⟨rfl, hw4⟩))
  have hw2 : Below w.heap.size w w2 := hb1.trans (hb2.mono hz1)
  have hz2 := hw2.size
  have hw3 : Below w.heap.size w w3 := (hw2.alloc hz2 _).grown hg3 (Nat.le_trans hz2 (by simp)) (fun k hk => by cases hk; exact hz2)
  obtain ⟨hb, hhb⟩ : ∃ hb, hb = w2.heap.size := ⟨_, rfl⟩
  rw [← hhb] at hb3 ⊢
  have hb0 : w.heap.size ≤ hb := by rw [hhb]; exact hz2
  have hp4 : Blk w4 (hb + 1) 31 #[.slice A0 n0 c0] := by rw [← hw4, hhb, show w2.heap.size + 1 = w3.heap.size from by rw [hs3, World.size_alloc]]; exact Blk.new _ _ _
  have hw4b : Below w.heap.size w w4 := by rw [← hw4]; exact hw3.alloc hw3.size _
  have h4 : SlB w4 w.heap.size A0 n0 c0 bs0 := W0.out.below hw4b
  have D2 : Blk w4 hb 26 (arr32 H8) := by rw [← hw4]; exact hb3.alloc _
  have hlb := D2.lt
  have hz4 := hw4b.size
  clear hw4 hb1 hb2 b2 hg3 hs3 hw2 hhb hz1 hz2 hw3 hb3
  go_wp2_with fail
  have own : ∀ (O' : Nat → Prop) (k : Nat), OwnFrom w4.heap.size (fun (_ : Unit) W' => O' hb ∧ Blk W' hb 26 (arr32 (shaTo bs0 k)) ∧ Below w.heap.size w W') := fun O' k => ownFrom_of fun s X X' hs hc =>
    ⟨hs.1, hc.blk hs.2.1, hc.below hs.2.2 hw4b.size (Nat.le_refl _)⟩
  refine wp_range (O := fun k => k = hb) (a := _) rfl (enters_of Try.func60 (by kernel_rfl) rfl) (pieces_iter hp4 h4 hz4 (by omega)) (Below.refl _ _) (fun _ => rfl) (fun k hk => ⟨trivial, by rw [hk]; exact hlb⟩)
    (fun O' pre W' => O' hb ∧ Blk W' hb 26 (arr32 (shaTo bs0 pre.length)) ∧ Below w.heap.size w W')
    (fun _ _ _ => False) (fun O' s X X' row hs => own O' s.length () X X' row hs) (fun _ _ _ _ _ h => h.elim) ⟨rfl, D2, hw4b⟩
    (fun O' pre x a' W' => (O' hb ∧ Blk W' hb 26 (arr32 (shaTo bs0 pre.length)) ∧ Below w.heap.size w W') ∧ x = pre.length ∧ x < pieceN n0 ∧
      ∃ gp, gp ≠ hb ∧ Blk W' gp 34 (arr8 (pieceAt bs0 x)) ∧ a' = { tmps := #[Value.slice A0 n0 c0, undef, Value.bool false, Value.pointer (some ⟨hb, 0, none⟩), Value.pointer (some ⟨gp, 0, none⟩), undef, undef, Value.agg (arr8 (sha [])), Value.int IntKind.u8 227, Value.bool false, Value.slice A0 n0 c0, Value.int IntKind.i64 (n0 : Int), Value.bool false, Value.agg (arr32 H8), Value.slice A0 n0 c0, .func (.func 60) #[] #[.pointer (some ⟨hb + 1, 0, none⟩)], Value.agg (arr8 (pieceAt bs0 x)), undef, undef, undef, undef, undef, undef, undef, undef, undef, undef, undef, undef, undef, undef, undef, undef, undef, undef, undef, undef, undef, undef, undef, undef, undef, undef, undef, undef, undef, undef, undef, undef], defers := [] })
    (fun O' pre x a' => ownFrom_of fun s X X' hs hc => ⟨OwnFrom.calm (own O' pre.length) (s := ()) hs.1 hc, hs.2.1, hs.2.2.1, by obtain ⟨gp, h1, h2, h3⟩ := hs.2.2.2; exact ⟨gp, h1, hc.blk h2, h3⟩⟩) ?_ ?_ ?_ (fun _ _ _ _ _ _ h _ => h.elim)
  · rintro l' O' pre x W' K ⟨ho1, hbh, hbw⟩ ⟨hx1, hx2⟩ hK
    have hl64 : (pieceAt bs0 x).length = 64 := len_pieceAt _ _ (by rw [hl3]; exact hx2)
    have HX1 := Lib.hid hx1
    clear hx1
    refine wpIn_region_of (free_rd l') rfl (fun ⟨_, _, h⟩ => h) ?_
    simp only [fold_one, List.setIfInBounds_toArray, List.set_cons_succ, List.set_cons_zero]
    refine wpList_alloc_agg rfl 34 rfl (arr8 (z8' 64)) zeroP34 ?_
    refine wpList_store8 rfl 34 (.tmp 4) (.tmp 16) rfl W'.heap.size rfl (pieceAt bs0 x) rfl aggP64 hl64 _ _ (Blk.new _ _ _) (by rw [size_arr8, len_z8']) ?_
    intro W5 hb5 hg5 hs5
    have hbb : Below W'.heap.size W' W5 := ((Below.refl _ _).alloc (Nat.le_refl _) _).grown hg5 (by simp) (fun k hk => by cases hk; exact Nat.le_refl _)
    refine hK O' _ _ (Kept.below hbb) ⟨⟨ho1, hbh.below hbb hbh.lt, hbw.trans (hbb.mono hbw.size)⟩, HX1.out, hx2, W'.heap.size, by have := hbh.lt; omega, hb5, ?_⟩
    rfl
  · rintro l' O' pre x a' W' ⟨⟨ho1, hbh, hbw⟩, hx1, hx2, gp, hgp, hbp, rfl⟩
    have hl64 : (pieceAt bs0 x).length = 64 := len_pieceAt _ _ (by rw [hl3]; exact hx2)
    have hl8 := len_shaTo bs0 pre.length
    have hl48 := len_sched (pieceAt bs0 x)
    have hnx : arr32 (shaTo bs0 (pre ++ [x]).length) = arr32 (takeH (shaTo bs0 pre.length) (sched (pieceAt bs0 x))) := by rw [List.length_append, List.length_cons, List.length_nil, Nat.zero_add, shaTo, ← hx1]
    obtain ⟨hs, hhs⟩ : ∃ hs, hs = shaTo bs0 pre.length := ⟨_, rfl⟩
    obtain ⟨pc, hpc⟩ : ∃ pc, pc = pieceAt bs0 x := ⟨_, rfl⟩
    rw [← hhs] at hl8 hbh
    rw [← hpc] at hl64 hbp hl48
    rw [← hhs, ← hpc] at hnx
    rw [← hpc]
    clear hhs hpc hx1
    gi_wp2
    refine wpIn_region_any_of (free_rd l') rfl (fun ⟨_, _, h⟩ => h) (by kernel_rfl) ?_
    have hV0 : Below W'.drew.heap.size W'.drew W'.drew := Below.refl _ _
    have hbh := hbh.drew
    have hbp := hbp.drew
    have fin : ∀ (W7 : World) (W6 : World), Blk W7 hb 26 (arr32 (takeH hs (sched pc))) → W6.grownBy W7 (some hb) → Below W'.drew.heap.size W'.drew W6 → ∃ O2, Kept O' O2 W' W7 ∧ O2 hb ∧ Blk W7 hb 26 (arr32 (shaTo bs0 (pre ++ [x]).length)) ∧ Below w.heap.size w W7 := fun W7 W6 hb7 hg7 hV6 => by
      have hV : Below W'.heap.size W' W6 := (Below.refl _ _).drew.trans hV6
      have hk : Kept O' O' W' W7 := (Kept.below hV).trans (Kept.grown hg7 ho1)
      refine ⟨O', hk, ho1, by rw [hnx]; exact hb7, ?_⟩
      exact (hbw.trans (hV.mono hbw.size)).grown hg7 (Nat.le_trans hbw.size hV.size) (fun k hk => by cases hk; omega)
    show wpAny _ _ _ _ 5 #[false, false, false, false, false] ⟨#[Value.slice A0 n0 c0, undef, Value.bool false, Value.pointer (some ⟨hb, 0, none⟩), Value.pointer (some ⟨gp, 0, none⟩), undef, undef, Value.agg (arr8 (sha [])), Value.int IntKind.u8 227, Value.bool false, Value.slice A0 n0 c0, Value.int IntKind.i64 (n0 : Int), Value.bool false, Value.agg (arr32 H8), Value.slice A0 n0 c0, .func (.func 60) #[] #[.pointer (some ⟨hb + 1, 0, none⟩)], Value.agg (arr8 pc), undef, undef, undef, undef, undef, undef, undef, undef, undef, undef, undef, undef, undef, undef, undef, undef, undef, undef, undef, undef, undef, undef, undef, undef, undef, undef, undef, undef, undef, undef, undef, undef], []⟩ _
    refine wpAny_ready (rs := [0, 1]) (by kernel_rfl) (by simp) ?_
    refine AllReady.cons rfl (fun K hK => ?_) (AllReady.cons rfl (fun K hK => ?_) (AllReady.nil))
    · skip
      refine arm_load_blk rfl 26 (.tmp 3) rfl hb rfl _ agg26 (by rw [size_arr32, hl8]) (hbh.below (by assumption) hbh.lt) (hK _ _ ?_)
      clear hK K
      show wpAny _ _ _ _ 4 #[true, false, false, false, false] ⟨#[Value.slice A0 n0 c0, undef, Value.bool false, Value.pointer (some ⟨hb, 0, none⟩), Value.pointer (some ⟨gp, 0, none⟩), undef, undef, Value.agg (arr8 (sha [])), Value.int IntKind.u8 227, Value.bool false, Value.slice A0 n0 c0, Value.int IntKind.i64 (n0 : Int), Value.bool false, Value.agg (arr32 H8), Value.slice A0 n0 c0, .func (.func 60) #[] #[.pointer (some ⟨hb + 1, 0, none⟩)], Value.agg (arr8 pc), Value.agg (arr32 hs), undef, undef, undef, undef, undef, undef, undef, undef, undef, undef, undef, undef, undef, undef, undef, undef, undef, undef, undef, undef, undef, undef, undef, undef, undef, undef, undef, undef, undef, undef, undef], []⟩ _
      refine wpAny_ready (rs := [1]) (by kernel_rfl) (by simp) ?_
      refine AllReady.cons rfl (fun K hK => ?_) (AllReady.nil)
      refine arm_load_blk rfl 34 (.tmp 4) rfl gp rfl _ aggP64 (by rw [size_arr8, hl64]) (hbp.below (by assumption) hbp.lt) (hK _ _ ?_)
      clear hK K
      show wpAny _ _ _ _ 3 #[true, true, false, false, false] ⟨#[Value.slice A0 n0 c0, undef, Value.bool false, Value.pointer (some ⟨hb, 0, none⟩), Value.pointer (some ⟨gp, 0, none⟩), undef, undef, Value.agg (arr8 (sha [])), Value.int IntKind.u8 227, Value.bool false, Value.slice A0 n0 c0, Value.int IntKind.i64 (n0 : Int), Value.bool false, Value.agg (arr32 H8), Value.slice A0 n0 c0, .func (.func 60) #[] #[.pointer (some ⟨hb + 1, 0, none⟩)], Value.agg (arr8 pc), Value.agg (arr32 hs), Value.agg (arr8 pc), undef, undef, undef, undef, undef, undef, undef, undef, undef, undef, undef, undef, undef, undef, undef, undef, undef, undef, undef, undef, undef, undef, undef, undef, undef, undef, undef, undef, undef, undef], []⟩ _
      refine wpAny_ready (rs := [2]) (by kernel_rfl) (by simp) ?_
      refine AllReady.cons rfl (fun K hK => ?_) (AllReady.nil)
      go_simp
      refine (schedule_c pc hl64 _).mono ?_
      rintro e W5 ⟨rfl, hb5⟩
      have hV5 := hV0.trans (hb5.mono hV0.size)
      refine hK _ _ ?_
      clear hK K
      show wpAny _ _ _ _ 2 #[true, true, true, false, false] ⟨#[Value.slice A0 n0 c0, undef, Value.bool false, Value.pointer (some ⟨hb, 0, none⟩), Value.pointer (some ⟨gp, 0, none⟩), undef, undef, Value.agg (arr8 (sha [])), Value.int IntKind.u8 227, Value.bool false, Value.slice A0 n0 c0, Value.int IntKind.i64 (n0 : Int), Value.bool false, Value.agg (arr32 H8), Value.slice A0 n0 c0, .func (.func 60) #[] #[.pointer (some ⟨hb + 1, 0, none⟩)], Value.agg (arr8 pc), Value.agg (arr32 hs), Value.agg (arr8 pc), Value.agg (arr32 (sched pc)), undef, undef, undef, undef, undef, undef, undef, undef, undef, undef, undef, undef, undef, undef, undef, undef, undef, undef, undef, undef, undef, undef, undef, undef, undef, undef, undef, undef, undef], []⟩ _
      refine wpAny_ready (rs := [3]) (by kernel_rfl) (by simp) ?_
      refine AllReady.cons rfl (fun K hK => ?_) (AllReady.nil)
      go_simp
      refine (take_c hs (sched pc) hl8 hl48 _).mono ?_
      rintro e W6 ⟨rfl, hb6⟩
      have hV6 := hV5.trans (hb6.mono hV5.size)
      refine hK _ _ ?_
      clear hK K
      show wpAny _ _ _ _ 1 #[true, true, true, true, false] ⟨#[Value.slice A0 n0 c0, undef, Value.bool false, Value.pointer (some ⟨hb, 0, none⟩), Value.pointer (some ⟨gp, 0, none⟩), undef, undef, Value.agg (arr8 (sha [])), Value.int IntKind.u8 227, Value.bool false, Value.slice A0 n0 c0, Value.int IntKind.i64 (n0 : Int), Value.bool false, Value.agg (arr32 H8), Value.slice A0 n0 c0, .func (.func 60) #[] #[.pointer (some ⟨hb + 1, 0, none⟩)], Value.agg (arr8 pc), Value.agg (arr32 hs), Value.agg (arr8 pc), Value.agg (arr32 (sched pc)), Value.agg (arr32 (takeH hs (sched pc))), undef, undef, undef, undef, undef, undef, undef, undef, undef, undef, undef, undef, undef, undef, undef, undef, undef, undef, undef, undef, undef, undef, undef, undef, undef, undef, undef, undef], []⟩ _
      refine wpAny_ready (rs := [4]) (by kernel_rfl) (by simp) ?_
      refine AllReady.cons rfl (fun K hK => ?_) (AllReady.nil)
      refine arm_store32 rfl 26 (.tmp 3) (.tmp 20) rfl hb rfl (takeH hs (sched pc)) rfl agg26 (len_takeH _ _ hl8) (hbh.below hV6 hbh.lt) (by rw [size_arr32, hl8]) ?_
      intro W7 hb7 hg7 hs7
      refine hK _ _ ?_
      clear hK K
      show wpAny _ _ _ _ 0 #[true, true, true, true, true] ⟨#[Value.slice A0 n0 c0, undef, Value.bool false, Value.pointer (some ⟨hb, 0, none⟩), Value.pointer (some ⟨gp, 0, none⟩), undef, undef, Value.agg (arr8 (sha [])), Value.int IntKind.u8 227, Value.bool false, Value.slice A0 n0 c0, Value.int IntKind.i64 (n0 : Int), Value.bool false, Value.agg (arr32 H8), Value.slice A0 n0 c0, .func (.func 60) #[] #[.pointer (some ⟨hb + 1, 0, none⟩)], Value.agg (arr8 pc), Value.agg (arr32 hs), Value.agg (arr8 pc), Value.agg (arr32 (sched pc)), Value.agg (arr32 (takeH hs (sched pc))), undef, undef, undef, undef, undef, undef, undef, undef, undef, undef, undef, undef, undef, undef, undef, undef, undef, undef, undef, undef, undef, undef, undef, undef, undef, undef, undef, undef], []⟩ _
      refine ⟨by kernel_rfl, ?_⟩
      exact fin _ _ hb7 hg7 hV6
    · skip
      refine arm_load_blk rfl 34 (.tmp 4) rfl gp rfl _ aggP64 (by rw [size_arr8, hl64]) (hbp.below (by assumption) hbp.lt) (hK _ _ ?_)
      clear hK K
      show wpAny _ _ _ _ 4 #[false, true, false, false, false] ⟨#[Value.slice A0 n0 c0, undef, Value.bool false, Value.pointer (some ⟨hb, 0, none⟩), Value.pointer (some ⟨gp, 0, none⟩), undef, undef, Value.agg (arr8 (sha [])), Value.int IntKind.u8 227, Value.bool false, Value.slice A0 n0 c0, Value.int IntKind.i64 (n0 : Int), Value.bool false, Value.agg (arr32 H8), Value.slice A0 n0 c0, .func (.func 60) #[] #[.pointer (some ⟨hb + 1, 0, none⟩)], Value.agg (arr8 pc), undef, Value.agg (arr8 pc), undef, undef, undef, undef, undef, undef, undef, undef, undef, undef, undef, undef, undef, undef, undef, undef, undef, undef, undef, undef, undef, undef, undef, undef, undef, undef, undef, undef, undef, undef], []⟩ _
      refine wpAny_ready (rs := [0, 2]) (by kernel_rfl) (by simp) ?_
      refine AllReady.cons rfl (fun K hK => ?_) (AllReady.cons rfl (fun K hK => ?_) (AllReady.nil))
      · skip
        refine arm_load_blk rfl 26 (.tmp 3) rfl hb rfl _ agg26 (by rw [size_arr32, hl8]) (hbh.below (by assumption) hbh.lt) (hK _ _ ?_)
        clear hK K
        show wpAny _ _ _ _ 3 #[true, true, false, false, false] ⟨#[Value.slice A0 n0 c0, undef, Value.bool false, Value.pointer (some ⟨hb, 0, none⟩), Value.pointer (some ⟨gp, 0, none⟩), undef, undef, Value.agg (arr8 (sha [])), Value.int IntKind.u8 227, Value.bool false, Value.slice A0 n0 c0, Value.int IntKind.i64 (n0 : Int), Value.bool false, Value.agg (arr32 H8), Value.slice A0 n0 c0, .func (.func 60) #[] #[.pointer (some ⟨hb + 1, 0, none⟩)], Value.agg (arr8 pc), Value.agg (arr32 hs), Value.agg (arr8 pc), undef, undef, undef, undef, undef, undef, undef, undef, undef, undef, undef, undef, undef, undef, undef, undef, undef, undef, undef, undef, undef, undef, undef, undef, undef, undef, undef, undef, undef, undef], []⟩ _
        refine wpAny_ready (rs := [2]) (by kernel_rfl) (by simp) ?_
        refine AllReady.cons rfl (fun K hK => ?_) (AllReady.nil)
        go_simp
        refine (schedule_c pc hl64 _).mono ?_
        rintro e W5 ⟨rfl, hb5⟩
        have hV5 := hV0.trans (hb5.mono hV0.size)
        refine hK _ _ ?_
        clear hK K
        show wpAny _ _ _ _ 2 #[true, true, true, false, false] ⟨#[Value.slice A0 n0 c0, undef, Value.bool false, Value.pointer (some ⟨hb, 0, none⟩), Value.pointer (some ⟨gp, 0, none⟩), undef, undef, Value.agg (arr8 (sha [])), Value.int IntKind.u8 227, Value.bool false, Value.slice A0 n0 c0, Value.int IntKind.i64 (n0 : Int), Value.bool false, Value.agg (arr32 H8), Value.slice A0 n0 c0, .func (.func 60) #[] #[.pointer (some ⟨hb + 1, 0, none⟩)], Value.agg (arr8 pc), Value.agg (arr32 hs), Value.agg (arr8 pc), Value.agg (arr32 (sched pc)), undef, undef, undef, undef, undef, undef, undef, undef, undef, undef, undef, undef, undef, undef, undef, undef, undef, undef, undef, undef, undef, undef, undef, undef, undef, undef, undef, undef, undef], []⟩ _
        refine wpAny_ready (rs := [3]) (by kernel_rfl) (by simp) ?_
        refine AllReady.cons rfl (fun K hK => ?_) (AllReady.nil)
        go_simp
        refine (take_c hs (sched pc) hl8 hl48 _).mono ?_
        rintro e W6 ⟨rfl, hb6⟩
        have hV6 := hV5.trans (hb6.mono hV5.size)
        refine hK _ _ ?_
        clear hK K
        show wpAny _ _ _ _ 1 #[true, true, true, true, false] ⟨#[Value.slice A0 n0 c0, undef, Value.bool false, Value.pointer (some ⟨hb, 0, none⟩), Value.pointer (some ⟨gp, 0, none⟩), undef, undef, Value.agg (arr8 (sha [])), Value.int IntKind.u8 227, Value.bool false, Value.slice A0 n0 c0, Value.int IntKind.i64 (n0 : Int), Value.bool false, Value.agg (arr32 H8), Value.slice A0 n0 c0, .func (.func 60) #[] #[.pointer (some ⟨hb + 1, 0, none⟩)], Value.agg (arr8 pc), Value.agg (arr32 hs), Value.agg (arr8 pc), Value.agg (arr32 (sched pc)), Value.agg (arr32 (takeH hs (sched pc))), undef, undef, undef, undef, undef, undef, undef, undef, undef, undef, undef, undef, undef, undef, undef, undef, undef, undef, undef, undef, undef, undef, undef, undef, undef, undef, undef, undef], []⟩ _
        refine wpAny_ready (rs := [4]) (by kernel_rfl) (by simp) ?_
        refine AllReady.cons rfl (fun K hK => ?_) (AllReady.nil)
        refine arm_store32 rfl 26 (.tmp 3) (.tmp 20) rfl hb rfl (takeH hs (sched pc)) rfl agg26 (len_takeH _ _ hl8) (hbh.below hV6 hbh.lt) (by rw [size_arr32, hl8]) ?_
        intro W7 hb7 hg7 hs7
        refine hK _ _ ?_
        clear hK K
        show wpAny _ _ _ _ 0 #[true, true, true, true, true] ⟨#[Value.slice A0 n0 c0, undef, Value.bool false, Value.pointer (some ⟨hb, 0, none⟩), Value.pointer (some ⟨gp, 0, none⟩), undef, undef, Value.agg (arr8 (sha [])), Value.int IntKind.u8 227, Value.bool false, Value.slice A0 n0 c0, Value.int IntKind.i64 (n0 : Int), Value.bool false, Value.agg (arr32 H8), Value.slice A0 n0 c0, .func (.func 60) #[] #[.pointer (some ⟨hb + 1, 0, none⟩)], Value.agg (arr8 pc), Value.agg (arr32 hs), Value.agg (arr8 pc), Value.agg (arr32 (sched pc)), Value.agg (arr32 (takeH hs (sched pc))), undef, undef, undef, undef, undef, undef, undef, undef, undef, undef, undef, undef, undef, undef, undef, undef, undef, undef, undef, undef, undef, undef, undef, undef, undef, undef, undef, undef], []⟩ _
        refine ⟨by kernel_rfl, ?_⟩
        exact fin _ _ hb7 hg7 hV6
      · skip
        go_simp
        refine (schedule_c pc hl64 _).mono ?_
        rintro e W5 ⟨rfl, hb5⟩
        have hV5 := hV0.trans (hb5.mono hV0.size)
        refine hK _ _ ?_
        clear hK K
        show wpAny _ _ _ _ 3 #[false, true, true, false, false] ⟨#[Value.slice A0 n0 c0, undef, Value.bool false, Value.pointer (some ⟨hb, 0, none⟩), Value.pointer (some ⟨gp, 0, none⟩), undef, undef, Value.agg (arr8 (sha [])), Value.int IntKind.u8 227, Value.bool false, Value.slice A0 n0 c0, Value.int IntKind.i64 (n0 : Int), Value.bool false, Value.agg (arr32 H8), Value.slice A0 n0 c0, .func (.func 60) #[] #[.pointer (some ⟨hb + 1, 0, none⟩)], Value.agg (arr8 pc), undef, Value.agg (arr8 pc), Value.agg (arr32 (sched pc)), undef, undef, undef, undef, undef, undef, undef, undef, undef, undef, undef, undef, undef, undef, undef, undef, undef, undef, undef, undef, undef, undef, undef, undef, undef, undef, undef, undef, undef], []⟩ _
        refine wpAny_ready (rs := [0]) (by kernel_rfl) (by simp) ?_
        refine AllReady.cons rfl (fun K hK => ?_) (AllReady.nil)
        refine arm_load_blk rfl 26 (.tmp 3) rfl hb rfl _ agg26 (by rw [size_arr32, hl8]) (hbh.below (by assumption) hbh.lt) (hK _ _ ?_)
        clear hK K
        show wpAny _ _ _ _ 2 #[true, true, true, false, false] ⟨#[Value.slice A0 n0 c0, undef, Value.bool false, Value.pointer (some ⟨hb, 0, none⟩), Value.pointer (some ⟨gp, 0, none⟩), undef, undef, Value.agg (arr8 (sha [])), Value.int IntKind.u8 227, Value.bool false, Value.slice A0 n0 c0, Value.int IntKind.i64 (n0 : Int), Value.bool false, Value.agg (arr32 H8), Value.slice A0 n0 c0, .func (.func 60) #[] #[.pointer (some ⟨hb + 1, 0, none⟩)], Value.agg (arr8 pc), Value.agg (arr32 hs), Value.agg (arr8 pc), Value.agg (arr32 (sched pc)), undef, undef, undef, undef, undef, undef, undef, undef, undef, undef, undef, undef, undef, undef, undef, undef, undef, undef, undef, undef, undef, undef, undef, undef, undef, undef, undef, undef, undef], []⟩ _
        refine wpAny_ready (rs := [3]) (by kernel_rfl) (by simp) ?_
        refine AllReady.cons rfl (fun K hK => ?_) (AllReady.nil)
        go_simp
        refine (take_c hs (sched pc) hl8 hl48 _).mono ?_
        rintro e W6 ⟨rfl, hb6⟩
        have hV6 := hV5.trans (hb6.mono hV5.size)
        refine hK _ _ ?_
        clear hK K
        show wpAny _ _ _ _ 1 #[true, true, true, true, false] ⟨#[Value.slice A0 n0 c0, undef, Value.bool false, Value.pointer (some ⟨hb, 0, none⟩), Value.pointer (some ⟨gp, 0, none⟩), undef, undef, Value.agg (arr8 (sha [])), Value.int IntKind.u8 227, Value.bool false, Value.slice A0 n0 c0, Value.int IntKind.i64 (n0 : Int), Value.bool false, Value.agg (arr32 H8), Value.slice A0 n0 c0, .func (.func 60) #[] #[.pointer (some ⟨hb + 1, 0, none⟩)], Value.agg (arr8 pc), Value.agg (arr32 hs), Value.agg (arr8 pc), Value.agg (arr32 (sched pc)), Value.agg (arr32 (takeH hs (sched pc))), undef, undef, undef, undef, undef, undef, undef, undef, undef, undef, undef, undef, undef, undef, undef, undef, undef, undef, undef, undef, undef, undef, undef, undef, undef, undef, undef, undef], []⟩ _
        refine wpAny_ready (rs := [4]) (by kernel_rfl) (by simp) ?_
        refine AllReady.cons rfl (fun K hK => ?_) (AllReady.nil)
        refine arm_store32 rfl 26 (.tmp 3) (.tmp 20) rfl hb rfl (takeH hs (sched pc)) rfl agg26 (len_takeH _ _ hl8) (hbh.below hV6 hbh.lt) (by rw [size_arr32, hl8]) ?_
        intro W7 hb7 hg7 hs7
        refine hK _ _ ?_
        clear hK K
        show wpAny _ _ _ _ 0 #[true, true, true, true, true] ⟨#[Value.slice A0 n0 c0, undef, Value.bool false, Value.pointer (some ⟨hb, 0, none⟩), Value.pointer (some ⟨gp, 0, none⟩), undef, undef, Value.agg (arr8 (sha [])), Value.int IntKind.u8 227, Value.bool false, Value.slice A0 n0 c0, Value.int IntKind.i64 (n0 : Int), Value.bool false, Value.agg (arr32 H8), Value.slice A0 n0 c0, .func (.func 60) #[] #[.pointer (some ⟨hb + 1, 0, none⟩)], Value.agg (arr8 pc), Value.agg (arr32 hs), Value.agg (arr8 pc), Value.agg (arr32 (sched pc)), Value.agg (arr32 (takeH hs (sched pc))), undef, undef, undef, undef, undef, undef, undef, undef, undef, undef, undef, undef, undef, undef, undef, undef, undef, undef, undef, undef, undef, undef, undef, undef, undef, undef, undef, undef], []⟩ _
        refine ⟨by kernel_rfl, ?_⟩
        exact fin _ _ hb7 hg7 hV6
  · rintro D O' xs W' hD rfl ⟨ho1, hbh, hbw⟩ hK
    have hl8 := len_shaTo bs0 (upTo (pieceN n0)).length
    have hsh : sha bs0 = out8 (shaTo bs0 (upTo (pieceN n0)).length) := by rw [len_upTo, sha, hl3]
    obtain ⟨hs, hhs⟩ : ∃ hs, hs = shaTo bs0 (upTo (pieceN n0)).length := ⟨_, rfl⟩
    rw [← hhs] at hbh hl8 hsh
    have HSH := Lib.hid hsh
    have HL8 := Lib.hid hl8
    have hz := hbw.size
    have hDl := (Array.getElem?_eq_some_iff.1 hK).1
    have hDl2 := hD
    have hhl := hbh.lt
    clear hhs hsh hl8
    have b5 := Blk.new W' 44 (arr8 (z8' 32))
    have bh := hbh.alloc (.cells (arr8 (z8' 32)) 44)
    have hw5 : Below w.heap.size w (W'.alloc (.cells (arr8 (z8' 32)) 44)) := hbw.alloc hz _
    have hD5 : (W'.alloc (.cells (arr8 (z8' 32)) 44)).heap[D]? = some (.deferred (some [])) := (Below.heap_alloc _ _ _ hDl).trans hK
    clear hbh hbw hK
    go_wp2_with (first
      | ((with_reducible show wpList _ _ _ (Oper.mk _ (Op.build 44 _) _ _ _ _ :: _) _ _); refine wpList_build rfl 44 _ rfl #[] (by simp only [List.map_toArray, List.map_nil]) _ (build44 _) ?_)
      | ((with_reducible show wpList _ _ _ (Oper.mk _ (Op.alloc 44) _ _ _ _ :: _) _ _); refine wpList_alloc_agg rfl 44 rfl (arr8 (z8' 32)) zero44 ?_; (try rw [World.size_alloc]))
      | ((with_reducible show wpList _ _ _ (Oper.mk none (Op.store 44 _ _) _ _ _ _ :: _) _ _); refine wpList_store8 rfl 44 (.tmp 5) (.tmp 21) rfl W'.heap.size rfl (z8' 32) rfl agg44 (len_z8' _) _ _ b5 (by rw [size_arr8, len_z8']) ?_; intro W6 hb6 hg6 hs6; simp only [Act.put, List.setIfInBounds_toArray, List.set_cons_succ, List.set_cons_zero]))
    have HD5 := hg6.block D (Array.getElem?_eq_some_iff.1 hD5).1 (by simp; omega)
    have d5 := bh.grown hg6 (by simp; omega)
    have hb06 : Below w.heap.size w W6 := hw5.grown hg6 hw5.size (fun k hk => by cases hk; exact hz)
    have hDW : W6.heap[D]? = some (.deferred (some [])) := HD5.trans hD5
    obtain ⟨g7, hg7⟩ : ∃ g7, g7 = W'.heap.size := ⟨_, rfl⟩
    rw [← hg7] at hb6 hDl hhl hz ⊢
    have hgk : hb ≠ g7 := by omega
    clear HD5 bh hg6 hs6 hD5 hw5 b5 hg7
    go_loopw [22] (fun v22 wr => ∃ i : Nat, i ≤ 32 ∧ v22 = .int .i64 (i : Int) ∧ Blk wr g7 44 (arr8 ((out8 hs).take i ++ z8' (32 - i))) ∧ Blk wr hb 26 (arr32 hs) ∧ Below w.heap.size w wr ∧ wr.heap[D]? = some (.deferred (some []))) (fun v22 _ => 32 - (intOf v22).toNat)
    case atStart => exact ⟨0, by omega, rfl, by rw [List.take_zero, List.nil_append]; exact hb6, d5, hb06, hDW⟩
    case round =>
      clear hb6 d5 hb06 hDW
      obtain ⟨i, hi, rfl, C7, C5, hbw, hD⟩ := hrel
      by_cases hlt2 : i < 32
      · obtain ⟨q, hq⟩ : ∃ q, q = i / 4 := ⟨_, rfl⟩
        obtain ⟨r, hr⟩ : ∃ r, r = i % 4 := ⟨_, rfl⟩
        have hq8 : q < 8 := by omega
        have hr4 : r < 4 := by omega
        have hiq : i = 4 * q + r := by omega
        have htq : ((i : Int)).tdiv 4 = (q : Int) := by rw [Int.tdiv_eq_ediv_of_nonneg (by omega)]; omega
        have htr : ((i : Int)).tmod 4 = (r : Int) := by rw [Int.tmod_eq_emod_of_nonneg (by omega)]; omega
        have hdq : ((i : Int)) / 4 = (q : Int) := by omega
        have hdr : ((i : Int)) % 4 = (r : Int) := by omega
        have hK : q < hs.length := by rw [HL8.out]; exact hq8
        obtain ⟨m, hm⟩ : ∃ m, m = 24 - 8 * r := ⟨_, rfl⟩
        have hmi : (24 : Int) - 8 * (r : Int) = (m : Int) := by omega
        have hm0 : (0 : Int) ≤ (m : Int) := by omega
        have hm1 : (m : Int) < 32 := by omega
        have hm2 : m < 32 := by omega
        obtain ⟨x, hx⟩ : ∃ x, x = hs[q]?.getD 0 := ⟨_, rfl⟩
        have d3 : wr.cell? ⟨hb, q, none⟩ = some (.int .u32 (x.toNat : Int)) := by rw [C5.cell, arr32_get, hx, List.getElem?_eq_getElem hK]; rfl
        have hqi : (q : Int) < 8 := by omega
        have hq0 : (0 : Int) ≤ (q : Int) := by omega
        have hri : (r : Int) < 4 := by omega
        have hr0 : (0 : Int) ≤ (r : Int) := by omega
        have hi1 : (i : Int) < 32 := by omega
        have hi00 : (0 : Int) ≤ (i : Int) := by omega
        have hs7 : (wr.cell? ⟨g7, i, none⟩).isSome = true := by rw [C7.cell]; exact arr8_some _ _ (by rw [List.length_append, len_z8', List.length_take, len_out8, HL8.out]; omega)
        obtain ⟨v0, hv0⟩ := Option.isSome_iff_exists.1 hs7
        have hf7 : wr.frozen? ⟨g7, i, none⟩ = false := C7.frozen i
        clear hs7
        have hbyte : (UInt8.ofNat (x.toNat / 2 ^ m)) = (out8 hs)[i]?.getD 0 := by rw [hx, hm]; exact (out8_at hs q r i hK hr4 hiq).symm
        have hxl := UInt32.toNat_lt x
        have HHR := Lib.hid hr
        have HHQ := Lib.hid hq
        have HHX := Lib.hid hx
        have HIQ := Lib.hid hiq
        have HM := Lib.hid hm
        have HBY := Lib.hid hbyte
        have HC7 := Lib.hid C7
        have HC5 := Lib.hid C5
        have HBw := Lib.hid hbw
        have HDD := Lib.hid hD
        clear hr hq hx hm hbyte hiq C7 C5 hbw hK hD
        go_wp2_with fail
        clear hv0 hf7
        have hv : (x.toNat : Int) / 2 ^ m % 256 = ((UInt8.ofNat (x.toNat / 2 ^ m)).toNat : Int) := by rw [UInt8.toNat_ofNat', Int.natCast_emod, Int.natCast_ediv, Int.natCast_pow]; rfl
        rw [hv, HBY.out]
        refine ⟨⟨i + 1, by omega, by go_num, ?_, HC5.out.far (by simp; omega) _, HBw.out.setCell (by simp; omega) _, (Below.heap_setCell _ _ _ _ (by simp; omega)).trans HDD.out⟩, by simp [intOf]; omega⟩
        rw [← arr8_put (out8 hs) i 32 (by rw [len_out8, HL8.out]; omega) (by rw [len_out8, HL8.out]; omega) _ rfl]
        exact HC7.out.set_ i _
      · obtain rfl : i = 32 := by omega
        have hfull : (out8 hs).take 32 ++ z8' (32 - 32) = sha bs0 := by rw [List.take_of_length_le (by rw [len_out8, HL8.out]; omega), HSH.out]; simp [z8']
        rw [hfull] at C7
        have HBw := Lib.hid hbw
        have hzr := hbw.size
        have HDD := Lib.hid hD
        have hDr : D < wr.heap.size := (Array.getElem?_eq_some_iff.1 hD).1
        have hDl4 : w.heap.size ≤ D := Nat.le_trans hz4 hDl2
        have hu := Try.underlying44
        have hinf : (Try.prog.info? 44).map (·.size) = some ((sha bs0).map b8).length := by rw [List.length_map, len_sha]; kernel_rfl
        have heq : ∀ W, (Op.equalIn 10000 44 (.agg (arr8 (sha bs0))) (.agg ((sha bs0).map b8).toArray)).run Try.prog W = .ok true W := eq44 (sha bs0) (sha bs0) (len_sha _) (len_sha _) true (by simp)
        have hge := guard44
        have hS : ∀ W, Below wr.heap.size wr W → (Below wr.heap.size wr W ∧ W.rangeAt g7 0 ((sha bs0).map b8)) := fun W hb => ⟨hb, fun j v hv => by rw [(C7.below hb C7.lt).cell, Nat.zero_add]; simpa [arr8] using hv⟩
        have hone : ∀ W, Below wr.heap.size wr W → Calls Try.prog 33 #[.slice (some ⟨W.heap.size, 0, none⟩) 1 1] (W.alloc (.cells #[.slice A0 n0 c0] 31)) fun e w' => e = .returned (.agg (arr8 (sha bs0))) ∧ Below wr.heap.size wr w' := fun W hb =>
          (of_one (W0.out.below (HBw.out.trans (hb.mono hzr))) (Nat.le_trans hzr hb.size) (by omega)).mono fun e w' ⟨h1, h2⟩ => ⟨h1, hb.trans (h2.mono hb.size)⟩
        have hd : Below wr.heap.size wr wr.drew := (Below.refl _ _).drew
        clear hfull hbw hD C5 hlt2 hi
        go_wp2_with fail
        refine Code.wp_mono (Q := Exit.then (fun a' w' => (∃ T : Array Value, a' = { tmps := T, defers := [{ target := .collected D, args := #[] }] } ∧ T.getD 2 undef = .bool true) ∧ Below wr.heap.size wr w') (fun _ _ _ => False)) ?_ ?_
        rotate_left
        · go_region_held_law (fun W => Below wr.heap.size wr W ∧ W.rangeAt g7 0 ((sha bs0).map b8)) (first | exact hS _ (by assumption) | exact hS _ hd | exact hS _ (Below.alloc (by assumption) (Below.size (by assumption)) _))
            (first
              | (go_at_call 33; with_reducible refine (of_nil _).mono ?_; rintro e w8 ⟨rfl, hb8⟩; have hw8 : Below wr.heap.size wr w8 := hd.trans (hb8.mono hd.size))
              | (go_at_call 33; with_reducible refine (hone _ (by assumption)).mono ?_; rintro e w9 ⟨rfl, hw9⟩))
          exact ⟨⟨_, rfl, rfl⟩, hw9⟩
        rintro e a' w' h
        cases e with
        | normal =>
          obtain ⟨⟨T, rfl, hT⟩, hw'⟩ := h
          have hD' : w'.heap[D]? = some (.deferred (some [])) := (hw'.block D hDr).trans HDD.out
          have hww : Below w.heap.size w w' := HBw.out.trans (hw'.mono hzr)
          go_wp2_with fail
          refine ⟨by simp, .inl ⟨_, _, rfl, run_takeDeferred hD', ?_⟩⟩
          refine ⟨_, results_tmp rfl _ _ _, by rw [hT], ?_⟩
          exact (calm_putObj (B := w.heap.size) _ hDl4 hD' rfl).below hww (Nat.le_refl _) (Nat.le_refl _)
        | _ => exact h.elim
end Go.Proofs.Ytbphoilfiahnpaa.digestChains
