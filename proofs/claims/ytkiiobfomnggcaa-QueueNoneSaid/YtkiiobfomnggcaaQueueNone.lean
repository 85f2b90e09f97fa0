/-
  QueueNone: a nil queue.
-/
import Derived.Test.YtkiiobfomnggcaaRingOps
namespace Go.Proofs.Ytkiiobfomnggcaa.queueNone
open Go.RowKit Go.Shelf
set_option linter.unusedVariables false
set_option linter.unusedSimpArgs false
set_option maxRecDepth 100000
attribute [local go_sem] Oper.semAt_some

theorem wp_at {P : Program} {C : Code} {Q : Exit → Act → World → Prop} {a : Act} {w : World} (h : ∀ a0, a0 = a → C.wp P Q a0 w) : C.wp P Q a w := h a rfl
theorem noall_iter {w : World} {p1 : Nat} (b1 : Blk w p1 37 #[.pointer none]) :
    Iter Try.prog 37 #[.pointer (some ⟨p1, 0, none⟩)] (fun _ : Nat => #[Value.int .i64 0, Value.int .i64 0]) (fun k => k ≠ p1) (fun _ _ _ => False) (fun xs => xs = []) (fun _ => False) w := by
  intro l J Jx O W hW hJ hJx hO hY h0
  refine callsIn_wide.2 ?_
  show Calls _ _ #[.func (.yield l) #[] #[], .pointer (some ⟨p1, 0, none⟩)] _ _
  have hB1 := b1.below hW b1.lt
  have d0 : W.cell? ⟨p1, 0, none⟩ = some (.pointer none) := by rw [hB1.cell]; rfl
  clear hY b1 hB1
  go_enter Try.func37, Try.ntmps37
  go_wp2_with (go_at_call 18; refine (len_nil _).mono ?_; rintro e w2 ⟨rfl, rfl⟩)
  go_step3
  go_wp2_with (go_at_call 18; refine (len_nil _).mono ?_; rintro e w2 ⟨rfl, rfl⟩)
  go_step3
  go_wp2_with (go_at_call 18; refine (len_nil _).mono ?_; rintro e w2 ⟨rfl, rfl⟩)
  refine wp_loop_rounds 1 ?_
  rw [rounds_succ]
  go_wp2_with fail
  unfold Exit.noGoto
  go_end0
  exact ⟨⟨_, rfl⟩, .inl ⟨O, _, rfl, h0⟩⟩
theorem drop_nil (init : Int) (w : World) : Calls Try.prog 19 #[.pointer none, .int .i64 init] w fun e w' => e = .returned (.int .i64 0) ∧ w = w' := by
  go_enter Try.func19, Try.ntmps19
  go_wp2_with (go_at_call 18; refine (len_nil _).mono ?_; rintro e w2 ⟨rfl, rfl⟩)
  go_loopw [10] (fun v10 wr' => v10 = .int .i64 0 ∧ w = wr') (fun _ _ => 0)
  case atStart => exact ⟨rfl, rfl⟩
  case round =>
    obtain ⟨rfl, rfl⟩ := hrel
    go_wp2_with (go_at_call 18; refine (len_nil _).mono ?_; rintro e w2 ⟨rfl, rfl⟩)
    go_ret
    exact ⟨rfl, rfl⟩
theorem all_c (p : Option Addr) (w : World) : Calls Try.prog 28 #[.pointer p] w fun e w' => e = .returned (.func (.func 37) #[] #[.pointer (some ⟨w.heap.size, 0, none⟩)]) ∧ w' = w.alloc (.cells #[.pointer p] 37) := by
  go_enter Try.func28, Try.ntmps28
  go_wp2_with fail
  go_ret
  exact ⟨rfl, rfl⟩

set_option maxHeartbeats 4000000 in
theorem walk (a0 : Int) (w : World) (w0 : (Lit.int .i64 a0).wf = true) :
    Calls Try.prog 7 #[.int .i64 a0] w fun e w' => e = .returned (.bool true) ∧ Below w.heap.size w w' := by
  have hB1 := buildW0 a0
  clear w0
  refine calls_of_wp_marks Try.func7 rfl ?_
  simp only [Try.ntmps7, List.size_toArray, List.length_cons, List.length_nil, Nat.reduceAdd, Nat.reduceSub, Array.replicate_succ, Array.replicate_zero, List.push_toArray, List.append_toArray, List.nil_append, List.cons_append]
  go_wp2_with (first
    | (go_at_call 14; refine (alive_c w).mono ?_; rintro e w1 ⟨rfl, hb1⟩; have hz1 := hb1.size)
    | (go_at_call 17; refine (take_no (.pointer none) (len_nil _)).mono ?_; rintro e w2 ⟨rfl, hb2⟩; have hw2 := hb1.trans (hb2.mono hz1); have hz2 := hw2.size; have bn := Blk.new w2 48 #[.int .i64 0, .int .i64 0, .int .i64 0, .int .i64 0, .int .i64 0, .int .i64 0, .slice none 0 0, .int .i64 0, .int .i64 0, .int .i64 0, .int .i64 0, .int .i64 0, .bool false])
    | ((with_reducible show wpList _ _ _ (Oper.mk (some 4) (Op.alloc _) _ _ _ _ :: _) _ _); refine wpList_alloc_agg rfl 48 rfl #[.int .i64 0, .int .i64 0, .int .i64 0, .int .i64 0, .int .i64 0, .int .i64 0, .slice none 0 0, .int .i64 0, .int .i64 0, .int .i64 0, .int .i64 0, .int .i64 0, .bool false] zeroW ?_)
    | ((with_reducible show wpList _ _ _ (Oper.mk none (Op.store 48 (.tmp 4) _) _ _ _ _ :: _) _ _); refine wpList_store_whole rfl 48 (.tmp 4) (.tmp 12) rfl w2.heap.size rfl [.int .i64 0, .int .i64 0, .int .i64 0, .int .i64 0, .int .i64 0, .int .i64 0, .slice none 0 0, .int .i64 0, .int .i64 0, .int .i64 0, .int .i64 0, .int .i64 0, .bool false] rfl aggW rfl _ _ bn rfl (by simp [Value.oneCell']) ?_; intro w3 b3 g3 s3; have h23 : Below w2.heap.size w2 w3 := (below_alloc _ _).grown g3 (by simp) (fun k hk => by cases hk; exact Nat.le_refl _); have hw3 := hw2.trans (h23.mono hz2); have hz3 := hw3.size; clear g3 s3)
    | (go_at_call 28; obtain ⟨g6, hg6⟩ : ∃ g, g = w3.heap.size := ⟨_, rfl⟩; obtain ⟨w4, hw4⟩ : ∃ w4, w4 = w3.alloc (.cells #[.int .i64 0] 3) := ⟨_, rfl⟩; rw [← hw4, ← hg6]; have b64 : Blk w4 g6 3 #[.int .i64 0] := (by rw [hw4, hg6]; exact Blk.new _ _ _); have h34 : Below w3.heap.size w3 w4 := (by rw [hw4]; exact below_alloc _ _); have hv4 := hw3.trans (h34.mono hz3); have hz4 := hv4.size; have b34 := b3.below h34 b3.lt; clear hw4 hg6; refine (all_c none w4).mono ?_; rintro e w5 ⟨rfl, hw5⟩; have h45 : Below w4.heap.size w4 w5 := (by rw [hw5]; exact below_alloc _ _); have q5 : Blk w5 w4.heap.size 37 #[.pointer none] := (by rw [hw5]; exact Blk.new _ _ _); have hv5 := hv4.trans (h45.mono hz4); have hz5 := hv5.size; have b35 := b34.below h45 b34.lt; have b65 := b64.below h45 b64.lt; clear hw5))
  have HB3 := Lib.hid b35
  have HB6 := Lib.hid b65
  have HQ := Lib.hid q5
  have HV5 := Lib.hid hv5
  clear b35 b65 q5 b34 b64 b3 hv5
  refine wp_at fun a1 ha1 => ?_
  refine wp_range (O := fun _ => False) (a := a1) (by rw [ha1]; rfl) (enters_of Try.func37 (by kernel_rfl) rfl) (noall_iter HQ.out) (Below.refl _ _) (fun _ => rfl) (fun k hk => hk.elim)
    (fun O' pre W' => Blk W' w2.heap.size 48 #[.int .i64 0, .int .i64 0, .int .i64 0, .int .i64 0, .int .i64 0, .int .i64 0, .slice none 0 0, .int .i64 0, .int .i64 0, .int .i64 0, .int .i64 0, .int .i64 0, .bool false] ∧ Blk W' g6 3 #[.int .i64 0] ∧ Below w.heap.size w W')
    (fun c pre W' => False) (fun O' => ownFrom_of fun s X X' hs hc => ⟨hc.blk hs.1, hc.blk hs.2.1, hc.below hs.2.2 hz5 (Nat.le_refl _)⟩) (fun c => ownFrom_of fun s X X' hs hc => hs) ⟨HB3.out, HB6.out, HV5.out⟩
    (fun O' pre x a' W' => False) (fun O' pre x a' => ownFrom_of fun s X X' hs hc => hs) ?_ ?_ ?_ ?_
  · rintro l' O' pre x W' K hI hx hK
    exact hx.elim
  · rintro l' O' pre x a' W' h
    exact h.elim
  · rintro D O' ys W' hD hys ⟨b3, b6, hbw⟩ hK
    subst ha1
    have d6 : W'.cell? ⟨g6, 0, none⟩ = some (.int .i64 0) := by rw [b6.cell]; rfl
    have d3 : W'.cell? ⟨w2.heap.size, 0, none⟩ = some (.int .i64 0) := by rw [b3.cell]; rfl
    have HB3' := Lib.hid b3
    have HB6' := Lib.hid b6
    have HBW := Lib.hid hbw
    have HK := Lib.hid hK
    have hzw := hbw.size
    have hDl : D < W'.heap.size := (Array.getElem?_eq_some_iff.1 hK).1
    clear b3 b6 hbw hK
    go_wp2_with (first
      | (go_at_call 16; refine (put_nil a0 0 W').mono ?_; rintro e w8 ⟨rfl, hb8⟩; have c6 : w8.cell? ⟨g6, 0, none⟩ = some (.int .i64 0) := (by rw [(HB6'.out.below hb8 HB6'.out.lt).cell]; rfl); have c3 : w8.cell? ⟨w2.heap.size, 0, none⟩ = some (.int .i64 0) := (by rw [(HB3'.out.below hb8 HB3'.out.lt).cell]; rfl))
      | (go_at_call 21; refine (is_err 8 8 rfl true rfl _).mono ?_; rintro e w' ⟨rfl, rfl⟩)
      | (go_at_call 19; refine (drop_nil a0 _).mono ?_; rintro e w' ⟨rfl, rfl⟩)
      | (go_at_call 18; refine (len_nil _).mono ?_; rintro e w' ⟨rfl, rfl⟩))
    have hK8 : w8.heap[D]? = some (.deferred (some [])) := (hb8.block D hDl).trans HK.out
    refine ⟨by simp, .inl ⟨_, _, rfl, run_takeDeferred hK8, ?_⟩⟩
    refine ⟨_, results_tmp rfl _ _ _, rfl, ?_⟩
    exact (calm_putObj (B := w.heap.size) _ (Nat.le_trans hz5 hD) hK8 rfl).below (HBW.out.trans (hb8.mono hzw)) (Nat.le_refl _) (Nat.le_refl _)
  · rintro D c pre W' hD _ h
    exact h.elim
end Go.Proofs.Ytkiiobfomnggcaa.queueNone
