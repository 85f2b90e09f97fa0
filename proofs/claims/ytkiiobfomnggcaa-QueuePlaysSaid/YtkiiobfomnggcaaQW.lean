/-
  queue: commands that wait and hold bytes: own, Put, Drop, and All's iterator (printed by wip/gen_qw.py).
-/
import Derived.Test.YtkiiobfomnggcaaRingOpsM
import Derived.Test.YtkiiobfomnggcaaRangeG
import Derived.Test.YtkiiobfomnggcaaApartA
namespace Go.Proofs.Ytkiiobfomnggcaa
open Go.RowKit Go.Shelf
set_option linter.unusedVariables false
set_option linter.unusedSimpArgs false
set_option maxRecDepth 100000

/-- A command that waits. -/
def wrb (i n k b : Int) (A : Option Addr) (m c : Nat) : List Value := [.int .i64 i, .int .i64 n, .int .i64 k, .int .i64 0, .int .i64 b, .int .i64 0, .slice A m c, .int .i64 0, .int .i64 0, .int .i64 0, .int .i64 0, .int .i64 0, .bool false]
theorem wrb_ok (i n k b : Int) (A : Option Addr) (m c : Nat) : (wrb i n k b A m c).length = 13 ∧ ∀ v ∈ wrb i n k b A m c, v.oneCell' = true := ⟨rfl, by simp [wrb, Value.oneCell']⟩
section
variable {w w' : World} {base size : Nat} {e : TypeId} {A : Option Addr} {n c : Nat} {xs : List Value}
theorem Row.farC (h : Row w base e size A n c xs) {g : Nat} (hg : g < base) (i : Nat) (v : Value) : Row (w.setCell ⟨g, i, none⟩ v) base e size A n c xs := by
  refine ⟨h.1, h.2.1, h.2.2.1, fun hc => ?_⟩
  obtain ⟨g', cur, e1, hg', hb, hs, ht⟩ := h.2.2.2 hc
  exact ⟨g', cur, e1, hg', hb.far (by show g' ≠ g; omega) _, hs, ht⟩
theorem Row.farG (h : Row w base e size A n c xs) {g : Nat} (hg : g < base) (hgr : w.grownBy w' (some g)) : Row w' base e size A n c xs := by
  refine ⟨h.1, h.2.1, h.2.2.1, fun hc => ?_⟩
  obtain ⟨g', cur, e1, hg', hb, hs, ht⟩ := h.2.2.2 hc
  exact ⟨g', cur, e1, hg', hb.grown hgr (by simp; omega), hs, ht⟩
theorem Row.ty (h : Row w base 5 size A n c xs) (hy : Ty w w') : Row w' base 5 size A n c xs := by
  refine ⟨h.1, h.2.1, h.2.2.1, fun hc => ?_⟩
  obtain ⟨g', cur, e1, hg', hb, hs, ht⟩ := h.2.2.2 hc
  exact ⟨g', cur, e1, hg', hy.2 _ _ _ hb (by decide) (by decide), hs, ht⟩
theorem Row.fr {L : List Nat} (h : Row w base e size A n c xs) (hf : Fr L w w') (hL : ∀ g, wrote A c = some g → g ∉ L) : Row w' base e size A n c xs := by
  refine ⟨h.1, h.2.1, h.2.2.1, fun hc => ?_⟩
  obtain ⟨g', cur, e1, hg', hb, hs, ht⟩ := h.2.2.2 hc
  exact ⟨g', cur, e1, hg', hf.blk hb (hL g' (by rw [wrote, if_neg (by omega), e1]; rfl)), hs, ht⟩
end
def NotIn (O : Nat → Prop) (A : Option Addr) (c : Nat) : Prop := ∀ g, wrote A c = some g → ¬ O g
theorem OwB.kept {w w' : World} {base : Nat} {A : Option Addr} {n c : Nat} {bs : List UInt8} {O O' : Nat → Prop} (h : OwB w base A n c bs) (hk : Kept O O' w w') (ho : NotIn O A c) : OwB w' base A n c bs :=
  hk.row h fun g e hc => ho g (by rw [wrote, if_neg (by omega), e]; rfl)
theorem NotIn.kept {w w' : World} {base : Nat} {A : Option Addr} {n c : Nat} {bs : List UInt8} {O O' : Nat → Prop} (h : OwB w base A n c bs) (hk : Kept O O' w w') (ho : NotIn O A c) : NotIn O' A c := fun g e => by
  rcases Row.wrote_lt h with h1 | ⟨g', _, h1, _, hlt, _⟩
  · rw [h1] at e; cases e
  · rw [h1] at e; cases e
    exact hk.far hlt (ho _ h1)
/-- What is known of the row that own hands back. -/
def RelWt (base : Nat) (i n k b : Int) (m : Nat) (bs : List UInt8) : Value → World → Prop := fun v w => ∃ A c, v = .agg (wrb i n k b A m c).toArray ∧ OwB w base A m c bs
theorem RelWt.later {base : Nat} {i n k b : Int} {m : Nat} {bs : List UInt8} (v : Value) (w w' : World) (hb : Below w.heap.size w w') (h : RelWt base i n k b m bs v w) : RelWt base i n k b m bs v w' :=
  let ⟨A, c, e, h⟩ := h
  ⟨A, c, e, OwB.below h hb⟩
theorem wpListIn_cut {F : Fence} {nn : Nat} {P : Program} (hF : Free F) {ops : Array Oper} {Q : Exit → Act → World → Prop} : ∀ (k : Nat) {l : List Oper} {a : Act} {w : World}, noDefer (l.take k) = true → wpList P ops (Exit.then (fun a' w' => wpListIn F nn P ops Q (l.drop k) a' w') (fun _ _ _ => False)) (l.take k) a w → wpListIn F nn P ops Q l a w
  | 0, l, a, w, _, h => by simpa [wpList, Exit.then] using h
  | k + 1, [], a, w, _, h => by simpa [wpList, Exit.then] using h
  | k + 1, o :: l, a, w, hnd, h => by
    have hnd' := hnd
    simp only [List.take_succ_cons, noDefer, List.all_cons, Bool.and_eq_true] at hnd'
    simp only [List.take_succ_cons, List.drop_succ_cons, wpList] at h
    simp only [wpListIn]
    split
    · rename_i hw
      rw [if_pos hw] at h
      rcases h with h | ⟨_, ⟨_, _, h⟩⟩
      · have hod := noDefer_op hnd'.1
        refine ⟨fun f _ => hF.fn f, ?_⟩
        rw [Oper.semAt_plain F _ _ hod]
        unfold Oper.wp at h
        generalize (execOp a.eval o).run P w = r at h ⊢
        have hd : ¬ F.depth.isSome = true := by rw [hF.depth]; simp
        have hK : ∀ a w, wpList P ops (Exit.then (fun a' w' => wpListIn F nn P ops Q (l.drop k) a' w') (fun _ _ _ => False)) (l.take k) a w → wpListIn F nn P ops Q l a w := fun a w hk => wpListIn_cut hF k hnd'.2 hk
        cases r with
        | ok x w' =>
          cases x with
          | value v => exact hK _ _ h
          | skip => exact hK _ _ h
          | defer d => exact hK _ _ h
          | enter f args =>
            refine ⟨fun e => absurd e hd, hF.calls (h.mono fun e w'' hr => ?_)⟩
            cases e with
            | returned v => exact hK _ _ hr
            | panicked c => exact (hr : False).elim
            | outgrown =>
              obtain ⟨_, _, hr⟩ := (hr : LetsOut _)
              exact (hr : False).elim
          | row row args => exact ⟨fun e => absurd e hd, hF.rows (h.mono fun v w'' hr => hK _ _ hr)⟩
          | _ => exact (h : False).elim
        | halt x w' =>
          cases x with
          | panic v => exact (h : False).elim
          | _ => exact (h : False).elim
      · exact (h : False).elim
    · rename_i hw
      rw [if_neg hw] at h
      exact ⟨fun f _ => hF.fn f, wpListIn_cut hF k hnd'.2 h⟩

set_option maxHeartbeats 4000000 in
theorem own_w {w : World} {B : Nat} (i n k b : Int) {A : Option Addr} {m c : Nat} {bs : List UInt8} (hd : SlB w B A m c bs) (hB : B ≤ w.heap.size) (hm : m ≤ 140737488355328) :
    Calls Try.prog 33 #[.agg (wrb i n k b A m c).toArray] w fun e w' => ∃ A' c', e = .returned (.agg (wrb i n k b A' m c').toArray) ∧ OwB w' w.heap.size A' m c' bs ∧ Below w.heap.size w w' := by
  show Calls _ _ #[.agg #[.int .i64 i, .int .i64 n, .int .i64 k, .int .i64 0, .int .i64 b, .int .i64 0, .slice A m c, .int .i64 0, .int .i64 0, .int .i64 0, .int .i64 0, .int .i64 0, .bool false]] _ fun e w' => ∃ A' c', e = .returned (.agg #[.int .i64 i, .int .i64 n, .int .i64 k, .int .i64 0, .int .i64 b, .int .i64 0, .slice A' m c', .int .i64 0, .int .i64 0, .int .i64 0, .int .i64 0, .int .i64 0, .bool false]) ∧ _
  obtain ⟨v, hv⟩ : ∃ v, v = (w.alloc (.cells #[.int .i64 i, .int .i64 n, .int .i64 k, .int .i64 0, .int .i64 b, .int .i64 0, .slice A m c, .int .i64 0, .int .i64 0, .int .i64 0, .int .i64 0, .int .i64 0, .bool false] 48)).alloc (.cells #[.int .i64 0, .int .i64 0, .int .i64 0, .int .i64 0, .int .i64 0, .int .i64 0, .slice none 0 0, .int .i64 0, .int .i64 0, .int .i64 0, .int .i64 0, .int .i64 0, .bool false] 48) := ⟨_, rfl⟩
  have b1 : Blk v w.heap.size 48 #[.int .i64 i, .int .i64 n, .int .i64 k, .int .i64 0, .int .i64 b, .int .i64 0, .slice A m c, .int .i64 0, .int .i64 0, .int .i64 0, .int .i64 0, .int .i64 0, .bool false] := by rw [hv]; exact (Blk.new _ _ _).alloc _
  have b2 : Blk v (w.heap.size + 1) 48 #[.int .i64 0, .int .i64 0, .int .i64 0, .int .i64 0, .int .i64 0, .int .i64 0, .slice none 0 0, .int .i64 0, .int .i64 0, .int .i64 0, .int .i64 0, .int .i64 0, .bool false] := by
    have := Blk.new (w.alloc (.cells #[.int .i64 i, .int .i64 n, .int .i64 k, .int .i64 0, .int .i64 b, .int .i64 0, .slice A m c, .int .i64 0, .int .i64 0, .int .i64 0, .int .i64 0, .int .i64 0, .bool false] 48)) 48 #[.int .i64 0, .int .i64 0, .int .i64 0, .int .i64 0, .int .i64 0, .int .i64 0, .slice none 0 0, .int .i64 0, .int .i64 0, .int .i64 0, .int .i64 0, .int .i64 0, .bool false]
    rw [World.size_alloc] at this
    rw [hv]; exact this
  have hbv : Below w.heap.size w v := by rw [hv]; exact ((Below.refl _ _).alloc (Nat.le_refl _) _).alloc (by simp) _
  have hz := hbv.size
  have hzv : v.heap.size = w.heap.size + 2 := by rw [hv]; simp
  have d6 : v.cell? ⟨w.heap.size, 6, none⟩ = some (.slice A m c) := by rw [b1.cell]; rfl
  have HDV := Lib.hid (hd.below (hbv.mono hB))
  have HV := Lib.hid hv
  have HB1 := Lib.hid b1
  have HB2 := Lib.hid b2
  clear hv b1 b2 hd
  go_enter Try.func33, Try.ntmps33
  go_wp2_with (first
    | ((with_reducible show wpList _ _ _ (Oper.mk (some 2) (Op.alloc _) _ _ _ _ :: _) _ _); refine wpList_alloc_agg rfl 48 rfl #[.int .i64 0, .int .i64 0, .int .i64 0, .int .i64 0, .int .i64 0, .int .i64 0, .slice none 0 0, .int .i64 0, .int .i64 0, .int .i64 0, .int .i64 0, .int .i64 0, .bool false] zeroW ?_; rw [← HV.out])
    | (go_at_call 29; refine (clone_c HDV.out (Nat.le_trans hB hz) hm).mono ?_; rintro e w2 ⟨A', c', rfl, ho2, hb2, _⟩; have b12 := HB1.out.below hb2 HB1.out.lt; have b22 := HB2.out.below hb2 HB2.out.lt; have d62 : w2.cell? ⟨w.heap.size, 6, none⟩ = some (.slice A m c) := (by rw [b12.cell]; rfl); have f62 := b12.frozen 6; obtain ⟨V5, hV5⟩ : ∃ V5, V5 = w2.setCell ⟨w.heap.size, 6, none⟩ (.slice A' m c') := ⟨_, rfl⟩; have b15 : Blk V5 w.heap.size 48 #[.int .i64 i, .int .i64 n, .int .i64 k, .int .i64 0, .int .i64 b, .int .i64 0, .slice A' m c', .int .i64 0, .int .i64 0, .int .i64 0, .int .i64 0, .int .i64 0, .bool false] := (by rw [hV5]; simpa using b12.set_ 6 (.slice A' m c')); have b25 : Blk V5 (w.heap.size + 1) 48 #[.int .i64 0, .int .i64 0, .int .i64 0, .int .i64 0, .int .i64 0, .int .i64 0, .slice none 0 0, .int .i64 0, .int .i64 0, .int .i64 0, .int .i64 0, .int .i64 0, .bool false] := (by rw [hV5]; exact b22.far (by show w.heap.size + 1 ≠ w.heap.size; omega) _); have hb5 : Below w.heap.size w V5 := (by rw [hV5]; exact (hbv.trans (hb2.mono hz)).setCell (p := ⟨w.heap.size, 6, none⟩) (Nat.le_refl _) _); have HO5 := Lib.hid (show OwB V5 v.heap.size A' m c' bs by rw [hV5]; exact Row.farC ho2 (by omega) 6 _); have HV5 := Lib.hid hV5; have HB15 := Lib.hid b15; have HB25 := Lib.hid b25; clear hV5 b15 b25 b12 b22 ho2)
    | ((with_reducible show wpList _ _ _ (Oper.mk (some 9) (Op.load 48 _) _ _ _ _ :: _) _ _); rw [← HV5.out]; refine wpList_load_whole rfl 48 (.tmp 1) rfl w.heap.size rfl #[.int .i64 i, .int .i64 n, .int .i64 k, .int .i64 0, .int .i64 b, .int .i64 0, .slice A' m c', .int .i64 0, .int .i64 0, .int .i64 0, .int .i64 0, .int .i64 0, .bool false] aggW rfl _ HB15.out ?_)
    | ((with_reducible show wpList _ _ _ (Oper.mk none (Op.store 48 (.tmp 2) _) _ _ _ _ :: _) _ _); refine wpList_store_whole rfl 48 (.tmp 2) (.tmp 9) rfl (w.heap.size + 1) rfl [.int .i64 i, .int .i64 n, .int .i64 k, .int .i64 0, .int .i64 b, .int .i64 0, .slice A' m c', .int .i64 0, .int .i64 0, .int .i64 0, .int .i64 0, .int .i64 0, .bool false] rfl aggW rfl _ _ HB25.out rfl (by simp [Value.oneCell']) ?_; intro w8 b8 g8 s8))
  refine bodyPost_ret (results_cell_one rfl _ (w.heap.size + 1) _ #[.int .i64 i, .int .i64 n, .int .i64 k, .int .i64 0, .int .i64 b, .int .i64 0, .slice A' m c', .int .i64 0, .int .i64 0, .int .i64 0, .int .i64 0, .int .i64 0, .bool false] aggW rfl rfl b8) rfl ⟨A', c', rfl, ?_, ?_⟩
  · exact Row.base_le (Row.farG HO5.out (by omega) g8) hz
  · exact hb5.grown g8 hb5.size (fun k hk => by cases hk; omega)

set_option maxHeartbeats 4000000 in
theorem putW_full {w : World} {base gq n : Nat} {xs : List (List Value)} (h : Qs w base gq n xs) (hx : xs.length = n) (r : List Value) :
    Calls Try.prog 16 #[.pointer (some ⟨gq, 0, none⟩), .agg r.toArray] w fun e w' => e = .returned (.iface 59 (.int .i64 8)) ∧ Below w.heap.size w w' := by
  obtain ⟨gs, f, k, rows, hR, hbq, hbs, rfl⟩ := h
  rw [len_view] at hx
  subst hx
  obtain ⟨v, hv⟩ : ∃ v, v = w.alloc (.cells r.toArray 48) := ⟨_, rfl⟩
  have hbv : Below w.heap.size w v := by rw [hv]; exact below_alloc _ _
  have HR := Lib.hid (hR.below hbv)
  have HV := Lib.hid hv
  clear hv hR
  go_enter Try.func16, Try.ntmps16
  go_wp2_with fail
  rw [← HV.out]
  refine wp_region_rel (fun W W' => Below W.heap.size W W') (fun W => Below v.heap.size v W)
    [Det (.pointer (some ⟨gq, 0, none⟩)), Det (.bool false), Det (.bool false), Det (.pointer (some ⟨gq, 0, none⟩)), Det (.pointer (some ⟨gq, 0, none⟩)), Det (.pointer (some ⟨gq, 0, none⟩)), Det (.pointer (some ⟨gq, 2, none⟩)), Det (.int .i64 (k : Int)), Det (.pointer (some ⟨gq, 0, none⟩)), Det (.pointer (some ⟨gq, 0, none⟩)), Det (.pointer (some ⟨gq, 0, none⟩)), Det (.pointer (some ⟨gq, 0, none⟩)), Det (.slice (some ⟨gs, 0, none⟩) k k), Det (.int .i64 (k : Int)), Det (.bool true), Det (.bool true)]
    [[], [(0, some 5)], [(1, some 6)], [(2, some 7)], [(3, some 8), (2, some 7)], [(4, some 9), (2, some 7)], [(5, some 10), (2, some 7)], [(6, some 11), (2, some 7)], [(2, some 7)], [(8, some 13), (2, some 7)], [(9, some 14), (2, some 7)], [(10, some 15), (2, some 7)], [(11, some 16), (2, some 7)], [(12, some 17), (2, some 7)], [(7, some 12), (13, some 18), (2, some 7)], [(2, some 7), (14, some 19)]]
    [[], [0], [0, 1], [0, 1, 2], [0, 1, 2, 3], [0, 1, 2, 3, 4], [0, 1, 2, 3, 4, 5], [0, 1, 2, 3, 4, 5, 6], [0, 1, 2], [0, 1, 2, 8], [0, 1, 2, 8, 9], [0, 1, 2, 8, 9, 10], [0, 1, 2, 8, 9, 10, 11], [0, 1, 2, 8, 9, 10, 11, 12], [0, 1, 2, 3, 4, 5, 6, 7, 8, 9, 10, 11, 12, 13], [0, 1, 2, 3, 4, 5, 6, 7, 8, 9, 10, 11, 12, 13, 14]]
    [(0, some 5), (1, some 6), (2, some 7), (3, some 8), (4, some 9), (5, some 10), (6, some 11), (7, some 12), (8, some 13), (9, some 14), (10, some 15), (11, some 16), (12, some 17), (13, some 18), (14, some 19), (15, some 20)] (by kernel_rfl) (by kernel_rfl) (fun W W' h1 h2 => h1.trans (h2.mono h1.size)) ((Below.refl _ _).drew) ?_ ?_ ?_
  · exact (AllMono.cons Det.later (AllMono.cons Det.later (AllMono.cons Det.later (AllMono.cons Det.later (AllMono.cons Det.later (AllMono.cons Det.later (AllMono.cons Det.later (AllMono.cons Det.later (AllMono.cons Det.later (AllMono.cons Det.later (AllMono.cons Det.later (AllMono.cons Det.later (AllMono.cons Det.later (AllMono.cons Det.later (AllMono.cons Det.later (AllMono.cons Det.later AllMono.nil))))))))))))))))
  · refine AllOb.cons ?_ (AllOb.cons ?_ (AllOb.cons ?_ (AllOb.cons ?_ (AllOb.cons ?_ (AllOb.cons ?_ (AllOb.cons ?_ (AllOb.cons ?_ (AllOb.cons ?_ (AllOb.cons ?_ (AllOb.cons ?_ (AllOb.cons ?_ (AllOb.cons ?_ (AllOb.cons ?_ (AllOb.cons ?_ (AllOb.cons ?_ (AllOb.nil))))))))))))))))
    · intro uF W hC' hU aF hF
      have hC : Below v.heap.size v W := hC'
      clear hC'
      simp only [puts] at hF
      subst hF
      go_wp2_with (fail)
      exact ⟨rfl, rfl, (Below.refl _ _), rfl⟩
    · intro uF W hC' hU aF hF
      have hC : Below v.heap.size v W := hC'
      clear hC'
      have h5 : (Det (.pointer (some ⟨gq, 0, none⟩))) (uF 0) W := hU.1
      clear hU
      simp only [puts, Act.put, List.setIfInBounds_toArray, List.set_cons_zero, List.set_cons_succ] at hF
      generalize uF 0 = x5 at h5 hF
      obtain rfl : x5 = (.pointer (some ⟨gq, 0, none⟩)) := h5
      subst hF
      go_wp2_with (fail)
      exact ⟨rfl, rfl, (Below.refl _ _), rfl⟩
    · intro uF W hC' hU aF hF
      have hC : Below v.heap.size v W := hC'
      clear hC'
      have h6 : (Det (.bool false)) (uF 1) W := hU.1
      clear hU
      simp only [puts, Act.put, List.setIfInBounds_toArray, List.set_cons_zero, List.set_cons_succ] at hF
      generalize uF 1 = x6 at h6 hF
      obtain rfl : x6 = (.bool false) := h6
      subst hF
      go_wp2_with (fail)
      exact ⟨rfl, rfl, (Below.refl _ _), rfl⟩
    · intro uF W hC' hU aF hF
      have hC : Below v.heap.size v W := hC'
      clear hC'
      have h7 : (Det (.bool false)) (uF 2) W := hU.1
      clear hU
      simp only [puts, Act.put, List.setIfInBounds_toArray, List.set_cons_zero, List.set_cons_succ] at hF
      generalize uF 2 = x7 at h7 hF
      obtain rfl : x7 = (.bool false) := h7
      subst hF
      go_wp2_with (fail)
      exact ⟨rfl, rfl, (Below.refl _ _), rfl⟩
    · intro uF W hC' hU aF hF
      have hC : Below v.heap.size v W := hC'
      clear hC'
      have h8 : (Det (.pointer (some ⟨gq, 0, none⟩))) (uF 3) W := hU.1
      have h7 : (Det (.bool false)) (uF 2) W := hU.2.1
      clear hU
      simp only [puts, Act.put, List.setIfInBounds_toArray, List.set_cons_zero, List.set_cons_succ] at hF
      generalize uF 3 = x8 at h8 hF
      generalize uF 2 = x7 at h7 hF
      obtain rfl : x8 = (.pointer (some ⟨gq, 0, none⟩)) := h8
      obtain rfl : x7 = (.bool false) := h7
      subst hF
      go_wp2_with (fail)
      exact ⟨rfl, rfl, (Below.refl _ _), rfl⟩
    · intro uF W hC' hU aF hF
      have hC : Below v.heap.size v W := hC'
      clear hC'
      have h9 : (Det (.pointer (some ⟨gq, 0, none⟩))) (uF 4) W := hU.1
      have h7 : (Det (.bool false)) (uF 2) W := hU.2.1
      clear hU
      simp only [puts, Act.put, List.setIfInBounds_toArray, List.set_cons_zero, List.set_cons_succ] at hF
      generalize uF 4 = x9 at h9 hF
      generalize uF 2 = x7 at h7 hF
      obtain rfl : x9 = (.pointer (some ⟨gq, 0, none⟩)) := h9
      obtain rfl : x7 = (.bool false) := h7
      subst hF
      go_wp2_with (fail)
      exact ⟨rfl, rfl, (Below.refl _ _), rfl⟩
    · intro uF W hC' hU aF hF
      have hC : Below v.heap.size v W := hC'
      clear hC'
      have h10 : (Det (.pointer (some ⟨gq, 0, none⟩))) (uF 5) W := hU.1
      have h7 : (Det (.bool false)) (uF 2) W := hU.2.1
      clear hU
      simp only [puts, Act.put, List.setIfInBounds_toArray, List.set_cons_zero, List.set_cons_succ] at hF
      generalize uF 5 = x10 at h10 hF
      generalize uF 2 = x7 at h7 hF
      obtain rfl : x10 = (.pointer (some ⟨gq, 0, none⟩)) := h10
      obtain rfl : x7 = (.bool false) := h7
      subst hF
      go_wp2_with (fail)
      exact ⟨rfl, rfl, (Below.refl _ _), rfl⟩
    · intro uF W hC' hU aF hF
      have hC : Below v.heap.size v W := hC'
      clear hC'
      have h11 : (Det (.pointer (some ⟨gq, 2, none⟩))) (uF 6) W := hU.1
      have h7 : (Det (.bool false)) (uF 2) W := hU.2.1
      clear hU
      simp only [puts, Act.put, List.setIfInBounds_toArray, List.set_cons_zero, List.set_cons_succ] at hF
      generalize uF 6 = x11 at h11 hF
      generalize uF 2 = x7 at h7 hF
      obtain rfl : x11 = (.pointer (some ⟨gq, 2, none⟩)) := h11
      obtain rfl : x7 = (.bool false) := h7
      subst hF
      have d2 := (HR.out.below hC).c2
      go_wp2_with (fail)
      exact ⟨rfl, rfl, (Below.refl _ _), rfl⟩
    · intro uF W hC' hU aF hF
      have hC : Below v.heap.size v W := hC'
      clear hC'
      have h7 : (Det (.bool false)) (uF 2) W := hU.1
      clear hU
      simp only [puts, Act.put, List.setIfInBounds_toArray, List.set_cons_zero, List.set_cons_succ] at hF
      generalize uF 2 = x7 at h7 hF
      obtain rfl : x7 = (.bool false) := h7
      subst hF
      go_wp2_with (fail)
      exact ⟨rfl, rfl, (Below.refl _ _), rfl⟩
    · intro uF W hC' hU aF hF
      have hC : Below v.heap.size v W := hC'
      clear hC'
      have h13 : (Det (.pointer (some ⟨gq, 0, none⟩))) (uF 8) W := hU.1
      have h7 : (Det (.bool false)) (uF 2) W := hU.2.1
      clear hU
      simp only [puts, Act.put, List.setIfInBounds_toArray, List.set_cons_zero, List.set_cons_succ] at hF
      generalize uF 8 = x13 at h13 hF
      generalize uF 2 = x7 at h7 hF
      obtain rfl : x13 = (.pointer (some ⟨gq, 0, none⟩)) := h13
      obtain rfl : x7 = (.bool false) := h7
      subst hF
      go_wp2_with (fail)
      exact ⟨rfl, rfl, (Below.refl _ _), rfl⟩
    · intro uF W hC' hU aF hF
      have hC : Below v.heap.size v W := hC'
      clear hC'
      have h14 : (Det (.pointer (some ⟨gq, 0, none⟩))) (uF 9) W := hU.1
      have h7 : (Det (.bool false)) (uF 2) W := hU.2.1
      clear hU
      simp only [puts, Act.put, List.setIfInBounds_toArray, List.set_cons_zero, List.set_cons_succ] at hF
      generalize uF 9 = x14 at h14 hF
      generalize uF 2 = x7 at h7 hF
      obtain rfl : x14 = (.pointer (some ⟨gq, 0, none⟩)) := h14
      obtain rfl : x7 = (.bool false) := h7
      subst hF
      go_wp2_with (fail)
      exact ⟨rfl, rfl, (Below.refl _ _), rfl⟩
    · intro uF W hC' hU aF hF
      have hC : Below v.heap.size v W := hC'
      clear hC'
      have h15 : (Det (.pointer (some ⟨gq, 0, none⟩))) (uF 10) W := hU.1
      have h7 : (Det (.bool false)) (uF 2) W := hU.2.1
      clear hU
      simp only [puts, Act.put, List.setIfInBounds_toArray, List.set_cons_zero, List.set_cons_succ] at hF
      generalize uF 10 = x15 at h15 hF
      generalize uF 2 = x7 at h7 hF
      obtain rfl : x15 = (.pointer (some ⟨gq, 0, none⟩)) := h15
      obtain rfl : x7 = (.bool false) := h7
      subst hF
      go_wp2_with (fail)
      exact ⟨rfl, rfl, (Below.refl _ _), rfl⟩
    · intro uF W hC' hU aF hF
      have hC : Below v.heap.size v W := hC'
      clear hC'
      have h16 : (Det (.pointer (some ⟨gq, 0, none⟩))) (uF 11) W := hU.1
      have h7 : (Det (.bool false)) (uF 2) W := hU.2.1
      clear hU
      simp only [puts, Act.put, List.setIfInBounds_toArray, List.set_cons_zero, List.set_cons_succ] at hF
      generalize uF 11 = x16 at h16 hF
      generalize uF 2 = x7 at h7 hF
      obtain rfl : x16 = (.pointer (some ⟨gq, 0, none⟩)) := h16
      obtain rfl : x7 = (.bool false) := h7
      subst hF
      have d0 := (HR.out.below hC).c0
      go_wp2_with (fail)
      exact ⟨rfl, rfl, (Below.refl _ _), rfl⟩
    · intro uF W hC' hU aF hF
      have hC : Below v.heap.size v W := hC'
      clear hC'
      have h17 : (Det (.slice (some ⟨gs, 0, none⟩) k k)) (uF 12) W := hU.1
      have h7 : (Det (.bool false)) (uF 2) W := hU.2.1
      clear hU
      simp only [puts, Act.put, List.setIfInBounds_toArray, List.set_cons_zero, List.set_cons_succ] at hF
      generalize uF 12 = x17 at h17 hF
      generalize uF 2 = x7 at h7 hF
      obtain rfl : x17 = (.slice (some ⟨gs, 0, none⟩) k k) := h17
      obtain rfl : x7 = (.bool false) := h7
      subst hF
      go_wp2_with (fail)
      exact ⟨rfl, rfl, (Below.refl _ _), rfl⟩
    · intro uF W hC' hU aF hF
      have hC : Below v.heap.size v W := hC'
      clear hC'
      have h12 : (Det (.int .i64 (k : Int))) (uF 7) W := hU.1
      have h18 : (Det (.int .i64 (k : Int))) (uF 13) W := hU.2.1
      have h7 : (Det (.bool false)) (uF 2) W := hU.2.2.1
      clear hU
      simp only [puts, Act.put, List.setIfInBounds_toArray, List.set_cons_zero, List.set_cons_succ] at hF
      generalize uF 7 = x12 at h12 hF
      generalize uF 13 = x18 at h18 hF
      generalize uF 2 = x7 at h7 hF
      obtain rfl : x12 = (.int .i64 (k : Int)) := h12
      obtain rfl : x18 = (.int .i64 (k : Int)) := h18
      obtain rfl : x7 = (.bool false) := h7
      subst hF
      go_wp2_with (fail)
      exact ⟨rfl, rfl, (Below.refl _ _), rfl⟩
    · intro uF W hC' hU aF hF
      have hC : Below v.heap.size v W := hC'
      clear hC'
      have h7 : (Det (.bool false)) (uF 2) W := hU.1
      have h19 : (Det (.bool true)) (uF 14) W := hU.2.1
      clear hU
      simp only [puts, Act.put, List.setIfInBounds_toArray, List.set_cons_zero, List.set_cons_succ] at hF
      generalize uF 2 = x7 at h7 hF
      generalize uF 14 = x19 at h19 hF
      obtain rfl : x7 = (.bool false) := h7
      obtain rfl : x19 = (.bool true) := h19
      subst hF
      go_wp2_with (fail)
      exact ⟨rfl, rfl, (Below.refl _ _), rfl⟩
  intro uF W5 hC' hU aF hF
  have hCW5 : Below v.heap.size v W5 := hC'
  clear hC'
  have h20 : (Det (.bool true)) (uF 15) W5 := hU.2.2.2.2.2.2.2.2.2.2.2.2.2.2.2.1
  clear hU
  simp only [puts, Act.put, List.setIfInBounds_toArray, List.set_cons_zero, List.set_cons_succ] at hF
  generalize uF 0 = x5 at hF
  generalize uF 1 = x6 at hF
  generalize uF 2 = x7 at hF
  generalize uF 3 = x8 at hF
  generalize uF 4 = x9 at hF
  generalize uF 5 = x10 at hF
  generalize uF 6 = x11 at hF
  generalize uF 7 = x12 at hF
  generalize uF 8 = x13 at hF
  generalize uF 9 = x14 at hF
  generalize uF 10 = x15 at hF
  generalize uF 11 = x16 at hF
  generalize uF 12 = x17 at hF
  generalize uF 13 = x18 at hF
  generalize uF 14 = x19 at hF
  generalize uF 15 = x20 at h20 hF
  obtain rfl : x20 = (.bool true) := h20
  subst hF
  go_wp2_with fail
  go_ret
  exact ⟨rfl, hbv.trans (hCW5.mono hbv.size)⟩

set_option maxHeartbeats 4000000 in
theorem putW {w : World} {base gq n B : Nat} {xs : List (List Value)} (h : Qs w base gq n xs) (hx : xs.length < n) (wi wn wk wb : Int) {A : Option Addr} {m c : Nat} {bs : List UInt8} (hd : SlB w B A m c bs) (hB : B ≤ w.heap.size) (hm : m ≤ 140737488355328) :
    Calls Try.prog 16 #[.pointer (some ⟨gq, 0, none⟩), .agg (wrb wi wn wk wb A m c).toArray] w fun e w' => e = .returned .nilIface ∧ ∃ A' c', Qs w' base gq n (xs ++ [wrb wi wn wk wb A' m c']) ∧ OwB w' w.heap.size A' m c' bs ∧ Below base w w' ∧ Ty w w' := by
  obtain ⟨gs, f, k, rows, hR, hbq, hbs, rfl⟩ := h
  rw [len_view] at hx
  have hn8 := hR.le8
  have hgq := hR.bq.lt
  have hkn : ((k : Int) == (n : Int)) = false := by simp; omega
  have hkn' : ¬ (k : Int) = (n : Int) := by omega
  obtain ⟨v, hv⟩ : ∃ v, v = w.alloc (.cells (wrb wi wn wk wb A m c).toArray 48) := ⟨_, rfl⟩
  have hbv : Below w.heap.size w v := by rw [hv]; exact below_alloc _ _
  have b3 : Blk v w.heap.size 48 (wrb wi wn wk wb A m c).toArray := by rw [hv]; exact Blk.new _ _ _
  have hz := hbv.size
  have HD := Lib.hid (hd.below (hbv.mono hB))
  have HR0 := Lib.hid hR
  have HR := Lib.hid (hR.below hbv)
  have HB3 := Lib.hid b3
  have HV := Lib.hid hv
  clear hv hR b3 hd
  go_enter Try.func16, Try.ntmps16
  go_wp2_with fail
  rw [← HV.out]
  refine wp_region_rel (fun W W' => Below W.heap.size W W') (fun W => Below v.heap.size v W)
    [Det (.pointer (some ⟨gq, 0, none⟩)), Det (.bool false), Det (.bool false), Det (.pointer (some ⟨gq, 0, none⟩)), Det (.pointer (some ⟨gq, 0, none⟩)), Det (.pointer (some ⟨gq, 0, none⟩)), Det (.pointer (some ⟨gq, 2, none⟩)), Det (.int .i64 (k : Int)), Det (.pointer (some ⟨gq, 0, none⟩)), Det (.pointer (some ⟨gq, 0, none⟩)), Det (.pointer (some ⟨gq, 0, none⟩)), Det (.pointer (some ⟨gq, 0, none⟩)), Det (.slice (some ⟨gs, 0, none⟩) n n), Det (.int .i64 (n : Int)), Det (.bool false), Det (.bool false)]
    [[], [(0, some 5)], [(1, some 6)], [(2, some 7)], [(3, some 8), (2, some 7)], [(4, some 9), (2, some 7)], [(5, some 10), (2, some 7)], [(6, some 11), (2, some 7)], [(2, some 7)], [(8, some 13), (2, some 7)], [(9, some 14), (2, some 7)], [(10, some 15), (2, some 7)], [(11, some 16), (2, some 7)], [(12, some 17), (2, some 7)], [(7, some 12), (13, some 18), (2, some 7)], [(2, some 7), (14, some 19)]]
    [[], [0], [0, 1], [0, 1, 2], [0, 1, 2, 3], [0, 1, 2, 3, 4], [0, 1, 2, 3, 4, 5], [0, 1, 2, 3, 4, 5, 6], [0, 1, 2], [0, 1, 2, 8], [0, 1, 2, 8, 9], [0, 1, 2, 8, 9, 10], [0, 1, 2, 8, 9, 10, 11], [0, 1, 2, 8, 9, 10, 11, 12], [0, 1, 2, 3, 4, 5, 6, 7, 8, 9, 10, 11, 12, 13], [0, 1, 2, 3, 4, 5, 6, 7, 8, 9, 10, 11, 12, 13, 14]]
    [(0, some 5), (1, some 6), (2, some 7), (3, some 8), (4, some 9), (5, some 10), (6, some 11), (7, some 12), (8, some 13), (9, some 14), (10, some 15), (11, some 16), (12, some 17), (13, some 18), (14, some 19), (15, some 20)] (by kernel_rfl) (by kernel_rfl) (fun W W' h1 h2 => h1.trans (h2.mono h1.size)) ((Below.refl _ _).drew) ?_ ?_ ?_
  · exact (AllMono.cons Det.later (AllMono.cons Det.later (AllMono.cons Det.later (AllMono.cons Det.later (AllMono.cons Det.later (AllMono.cons Det.later (AllMono.cons Det.later (AllMono.cons Det.later (AllMono.cons Det.later (AllMono.cons Det.later (AllMono.cons Det.later (AllMono.cons Det.later (AllMono.cons Det.later (AllMono.cons Det.later (AllMono.cons Det.later (AllMono.cons Det.later AllMono.nil))))))))))))))))
  · refine AllOb.cons ?_ (AllOb.cons ?_ (AllOb.cons ?_ (AllOb.cons ?_ (AllOb.cons ?_ (AllOb.cons ?_ (AllOb.cons ?_ (AllOb.cons ?_ (AllOb.cons ?_ (AllOb.cons ?_ (AllOb.cons ?_ (AllOb.cons ?_ (AllOb.cons ?_ (AllOb.cons ?_ (AllOb.cons ?_ (AllOb.cons ?_ (AllOb.nil))))))))))))))))
    · intro uF W hC' hU aF hF
      have hC : Below v.heap.size v W := hC'
      clear hC'
      simp only [puts] at hF
      subst hF
      go_wp2_with (fail)
      exact ⟨rfl, rfl, (Below.refl _ _), rfl⟩
    · intro uF W hC' hU aF hF
      have hC : Below v.heap.size v W := hC'
      clear hC'
      have h5 : (Det (.pointer (some ⟨gq, 0, none⟩))) (uF 0) W := hU.1
      clear hU
      simp only [puts, Act.put, List.setIfInBounds_toArray, List.set_cons_zero, List.set_cons_succ] at hF
      generalize uF 0 = x5 at h5 hF
      obtain rfl : x5 = (.pointer (some ⟨gq, 0, none⟩)) := h5
      subst hF
      go_wp2_with (fail)
      exact ⟨rfl, rfl, (Below.refl _ _), rfl⟩
    · intro uF W hC' hU aF hF
      have hC : Below v.heap.size v W := hC'
      clear hC'
      have h6 : (Det (.bool false)) (uF 1) W := hU.1
      clear hU
      simp only [puts, Act.put, List.setIfInBounds_toArray, List.set_cons_zero, List.set_cons_succ] at hF
      generalize uF 1 = x6 at h6 hF
      obtain rfl : x6 = (.bool false) := h6
      subst hF
      go_wp2_with (fail)
      exact ⟨rfl, rfl, (Below.refl _ _), rfl⟩
    · intro uF W hC' hU aF hF
      have hC : Below v.heap.size v W := hC'
      clear hC'
      have h7 : (Det (.bool false)) (uF 2) W := hU.1
      clear hU
      simp only [puts, Act.put, List.setIfInBounds_toArray, List.set_cons_zero, List.set_cons_succ] at hF
      generalize uF 2 = x7 at h7 hF
      obtain rfl : x7 = (.bool false) := h7
      subst hF
      go_wp2_with (fail)
      exact ⟨rfl, rfl, (Below.refl _ _), rfl⟩
    · intro uF W hC' hU aF hF
      have hC : Below v.heap.size v W := hC'
      clear hC'
      have h8 : (Det (.pointer (some ⟨gq, 0, none⟩))) (uF 3) W := hU.1
      have h7 : (Det (.bool false)) (uF 2) W := hU.2.1
      clear hU
      simp only [puts, Act.put, List.setIfInBounds_toArray, List.set_cons_zero, List.set_cons_succ] at hF
      generalize uF 3 = x8 at h8 hF
      generalize uF 2 = x7 at h7 hF
      obtain rfl : x8 = (.pointer (some ⟨gq, 0, none⟩)) := h8
      obtain rfl : x7 = (.bool false) := h7
      subst hF
      go_wp2_with (fail)
      exact ⟨rfl, rfl, (Below.refl _ _), rfl⟩
    · intro uF W hC' hU aF hF
      have hC : Below v.heap.size v W := hC'
      clear hC'
      have h9 : (Det (.pointer (some ⟨gq, 0, none⟩))) (uF 4) W := hU.1
      have h7 : (Det (.bool false)) (uF 2) W := hU.2.1
      clear hU
      simp only [puts, Act.put, List.setIfInBounds_toArray, List.set_cons_zero, List.set_cons_succ] at hF
      generalize uF 4 = x9 at h9 hF
      generalize uF 2 = x7 at h7 hF
      obtain rfl : x9 = (.pointer (some ⟨gq, 0, none⟩)) := h9
      obtain rfl : x7 = (.bool false) := h7
      subst hF
      go_wp2_with (fail)
      exact ⟨rfl, rfl, (Below.refl _ _), rfl⟩
    · intro uF W hC' hU aF hF
      have hC : Below v.heap.size v W := hC'
      clear hC'
      have h10 : (Det (.pointer (some ⟨gq, 0, none⟩))) (uF 5) W := hU.1
      have h7 : (Det (.bool false)) (uF 2) W := hU.2.1
      clear hU
      simp only [puts, Act.put, List.setIfInBounds_toArray, List.set_cons_zero, List.set_cons_succ] at hF
      generalize uF 5 = x10 at h10 hF
      generalize uF 2 = x7 at h7 hF
      obtain rfl : x10 = (.pointer (some ⟨gq, 0, none⟩)) := h10
      obtain rfl : x7 = (.bool false) := h7
      subst hF
      go_wp2_with (fail)
      exact ⟨rfl, rfl, (Below.refl _ _), rfl⟩
    · intro uF W hC' hU aF hF
      have hC : Below v.heap.size v W := hC'
      clear hC'
      have h11 : (Det (.pointer (some ⟨gq, 2, none⟩))) (uF 6) W := hU.1
      have h7 : (Det (.bool false)) (uF 2) W := hU.2.1
      clear hU
      simp only [puts, Act.put, List.setIfInBounds_toArray, List.set_cons_zero, List.set_cons_succ] at hF
      generalize uF 6 = x11 at h11 hF
      generalize uF 2 = x7 at h7 hF
      obtain rfl : x11 = (.pointer (some ⟨gq, 2, none⟩)) := h11
      obtain rfl : x7 = (.bool false) := h7
      subst hF
      have d2 := (HR.out.below hC).c2
      go_wp2_with (fail)
      exact ⟨rfl, rfl, (Below.refl _ _), rfl⟩
    · intro uF W hC' hU aF hF
      have hC : Below v.heap.size v W := hC'
      clear hC'
      have h7 : (Det (.bool false)) (uF 2) W := hU.1
      clear hU
      simp only [puts, Act.put, List.setIfInBounds_toArray, List.set_cons_zero, List.set_cons_succ] at hF
      generalize uF 2 = x7 at h7 hF
      obtain rfl : x7 = (.bool false) := h7
      subst hF
      go_wp2_with (fail)
      exact ⟨rfl, rfl, (Below.refl _ _), rfl⟩
    · intro uF W hC' hU aF hF
      have hC : Below v.heap.size v W := hC'
      clear hC'
      have h13 : (Det (.pointer (some ⟨gq, 0, none⟩))) (uF 8) W := hU.1
      have h7 : (Det (.bool false)) (uF 2) W := hU.2.1
      clear hU
      simp only [puts, Act.put, List.setIfInBounds_toArray, List.set_cons_zero, List.set_cons_succ] at hF
      generalize uF 8 = x13 at h13 hF
      generalize uF 2 = x7 at h7 hF
      obtain rfl : x13 = (.pointer (some ⟨gq, 0, none⟩)) := h13
      obtain rfl : x7 = (.bool false) := h7
      subst hF
      go_wp2_with (fail)
      exact ⟨rfl, rfl, (Below.refl _ _), rfl⟩
    · intro uF W hC' hU aF hF
      have hC : Below v.heap.size v W := hC'
      clear hC'
      have h14 : (Det (.pointer (some ⟨gq, 0, none⟩))) (uF 9) W := hU.1
      have h7 : (Det (.bool false)) (uF 2) W := hU.2.1
      clear hU
      simp only [puts, Act.put, List.setIfInBounds_toArray, List.set_cons_zero, List.set_cons_succ] at hF
      generalize uF 9 = x14 at h14 hF
      generalize uF 2 = x7 at h7 hF
      obtain rfl : x14 = (.pointer (some ⟨gq, 0, none⟩)) := h14
      obtain rfl : x7 = (.bool false) := h7
      subst hF
      go_wp2_with (fail)
      exact ⟨rfl, rfl, (Below.refl _ _), rfl⟩
    · intro uF W hC' hU aF hF
      have hC : Below v.heap.size v W := hC'
      clear hC'
      have h15 : (Det (.pointer (some ⟨gq, 0, none⟩))) (uF 10) W := hU.1
      have h7 : (Det (.bool false)) (uF 2) W := hU.2.1
      clear hU
      simp only [puts, Act.put, List.setIfInBounds_toArray, List.set_cons_zero, List.set_cons_succ] at hF
      generalize uF 10 = x15 at h15 hF
      generalize uF 2 = x7 at h7 hF
      obtain rfl : x15 = (.pointer (some ⟨gq, 0, none⟩)) := h15
      obtain rfl : x7 = (.bool false) := h7
      subst hF
      go_wp2_with (fail)
      exact ⟨rfl, rfl, (Below.refl _ _), rfl⟩
    · intro uF W hC' hU aF hF
      have hC : Below v.heap.size v W := hC'
      clear hC'
      have h16 : (Det (.pointer (some ⟨gq, 0, none⟩))) (uF 11) W := hU.1
      have h7 : (Det (.bool false)) (uF 2) W := hU.2.1
      clear hU
      simp only [puts, Act.put, List.setIfInBounds_toArray, List.set_cons_zero, List.set_cons_succ] at hF
      generalize uF 11 = x16 at h16 hF
      generalize uF 2 = x7 at h7 hF
      obtain rfl : x16 = (.pointer (some ⟨gq, 0, none⟩)) := h16
      obtain rfl : x7 = (.bool false) := h7
      subst hF
      have d0 := (HR.out.below hC).c0
      go_wp2_with (fail)
      exact ⟨rfl, rfl, (Below.refl _ _), rfl⟩
    · intro uF W hC' hU aF hF
      have hC : Below v.heap.size v W := hC'
      clear hC'
      have h17 : (Det (.slice (some ⟨gs, 0, none⟩) n n)) (uF 12) W := hU.1
      have h7 : (Det (.bool false)) (uF 2) W := hU.2.1
      clear hU
      simp only [puts, Act.put, List.setIfInBounds_toArray, List.set_cons_zero, List.set_cons_succ] at hF
      generalize uF 12 = x17 at h17 hF
      generalize uF 2 = x7 at h7 hF
      obtain rfl : x17 = (.slice (some ⟨gs, 0, none⟩) n n) := h17
      obtain rfl : x7 = (.bool false) := h7
      subst hF
      go_wp2_with (fail)
      exact ⟨rfl, rfl, (Below.refl _ _), rfl⟩
    · intro uF W hC' hU aF hF
      have hC : Below v.heap.size v W := hC'
      clear hC'
      have h12 : (Det (.int .i64 (k : Int))) (uF 7) W := hU.1
      have h18 : (Det (.int .i64 (n : Int))) (uF 13) W := hU.2.1
      have h7 : (Det (.bool false)) (uF 2) W := hU.2.2.1
      clear hU
      simp only [puts, Act.put, List.setIfInBounds_toArray, List.set_cons_zero, List.set_cons_succ] at hF
      generalize uF 7 = x12 at h12 hF
      generalize uF 13 = x18 at h18 hF
      generalize uF 2 = x7 at h7 hF
      obtain rfl : x12 = (.int .i64 (k : Int)) := h12
      obtain rfl : x18 = (.int .i64 (n : Int)) := h18
      obtain rfl : x7 = (.bool false) := h7
      subst hF
      go_wp2_with (fail)
      exact ⟨rfl, rfl, (Below.refl _ _), rfl⟩
    · intro uF W hC' hU aF hF
      have hC : Below v.heap.size v W := hC'
      clear hC'
      have h7 : (Det (.bool false)) (uF 2) W := hU.1
      have h19 : (Det (.bool false)) (uF 14) W := hU.2.1
      clear hU
      simp only [puts, Act.put, List.setIfInBounds_toArray, List.set_cons_zero, List.set_cons_succ] at hF
      generalize uF 2 = x7 at h7 hF
      generalize uF 14 = x19 at h19 hF
      obtain rfl : x7 = (.bool false) := h7
      obtain rfl : x19 = (.bool false) := h19
      subst hF
      go_wp2_with (fail)
      exact ⟨rfl, rfl, (Below.refl _ _), rfl⟩
  intro uF W5 hC' hU aF hF
  have hCW5 : Below v.heap.size v W5 := hC'
  clear hC'
  have h20 : (Det (.bool false)) (uF 15) W5 := hU.2.2.2.2.2.2.2.2.2.2.2.2.2.2.2.1
  clear hU
  simp only [puts, Act.put, List.setIfInBounds_toArray, List.set_cons_zero, List.set_cons_succ] at hF
  generalize uF 0 = x5 at hF
  generalize uF 1 = x6 at hF
  generalize uF 2 = x7 at hF
  generalize uF 3 = x8 at hF
  generalize uF 4 = x9 at hF
  generalize uF 5 = x10 at hF
  generalize uF 6 = x11 at hF
  generalize uF 7 = x12 at hF
  generalize uF 8 = x13 at hF
  generalize uF 9 = x14 at hF
  generalize uF 10 = x15 at hF
  generalize uF 11 = x16 at hF
  generalize uF 12 = x17 at hF
  generalize uF 13 = x18 at hF
  generalize uF 14 = x19 at hF
  generalize uF 15 = x20 at h20 hF
  obtain rfl : x20 = (.bool false) := h20
  subst hF
  have hv5 := hbv.trans (hCW5.mono hz)
  have hz5 := hv5.size
  have hz5v := hCW5.size
  have HR5 := Lib.hid (HR.out.below hCW5)
  have HB35 := Lib.hid (HB3.out.below hCW5 HB3.out.lt)
  have HD5 := Lib.hid (HD.out.below (hCW5.mono (Nat.le_trans hB hz)))
  go_wp2_with fail
  refine (wpIn_wide (n := 4)).1 ?_
  refine wpIn_region_rel free_wide rfl 5 (fun W W' => Below W.heap.size W W') (fun W => Below W5.heap.size W5 W)
    [Det (.pointer (some ⟨gq, 0, none⟩)), Det (.pointer (some ⟨gq, 0, none⟩)), Det (.pointer (some ⟨gq, 0, none⟩)), Det (.agg (wrb wi wn wk wb A m c).toArray), RelWt w.heap.size wi wn wk wb m bs, Any]
    [[], [(0, some 22)], [(1, some 23)], [], [(3, some 25)], [(2, some 24), (4, some 26)]]
    [[], [0], [0, 1], [], [3], [0, 1, 2, 3, 4]]
    [(0, some 22), (1, some 23), (2, some 24), (3, some 25), (4, some 26), (5, some 27)] (by kernel_rfl) (by kernel_rfl) (by kernel_rfl) (fun W W' h1 h2 => h1.trans (h2.mono h1.size)) ((Below.refl _ _).drew) ?_ ?_ ?_
  · exact (AllMono.cons Det.later (AllMono.cons Det.later (AllMono.cons Det.later (AllMono.cons Det.later (AllMono.cons RelWt.later (AllMono.cons Any.later AllMono.nil))))))
  · refine AllOb.cons ?_ (AllOb.cons ?_ (AllOb.cons ?_ (AllOb.cons ?_ (AllOb.cons ?_ (AllOb.nil)))))
    · intro uF W hC' hU aF hF
      have hC : Below W5.heap.size W5 W := hC'
      clear hC'
      simp only [puts] at hF
      subst hF
      go_wp2_with (fail)
      exact ⟨rfl, rfl, (Below.refl _ _), rfl⟩
    · intro uF W hC' hU aF hF
      have hC : Below W5.heap.size W5 W := hC'
      clear hC'
      have h22 : (Det (.pointer (some ⟨gq, 0, none⟩))) (uF 0) W := hU.1
      clear hU
      simp only [puts, Act.put, List.setIfInBounds_toArray, List.set_cons_zero, List.set_cons_succ] at hF
      generalize uF 0 = x22 at h22 hF
      obtain rfl : x22 = (.pointer (some ⟨gq, 0, none⟩)) := h22
      subst hF
      go_wp2_with (fail)
      exact ⟨rfl, rfl, (Below.refl _ _), rfl⟩
    · intro uF W hC' hU aF hF
      have hC : Below W5.heap.size W5 W := hC'
      clear hC'
      have h23 : (Det (.pointer (some ⟨gq, 0, none⟩))) (uF 1) W := hU.1
      clear hU
      simp only [puts, Act.put, List.setIfInBounds_toArray, List.set_cons_zero, List.set_cons_succ] at hF
      generalize uF 1 = x23 at h23 hF
      obtain rfl : x23 = (.pointer (some ⟨gq, 0, none⟩)) := h23
      subst hF
      go_wp2_with (fail)
      exact ⟨rfl, rfl, (Below.refl _ _), rfl⟩
    · intro uF W hC' hU aF hF
      have hC : Below W5.heap.size W5 W := hC'
      clear hC'
      simp only [puts] at hF
      subst hF
      go_wp2_with (((with_reducible show wpList _ _ _ (Oper.mk (some 25) (Op.load 48 _) _ _ _ _ :: _) _ _); refine wpList_load_whole (by rfl) 48 (.tmp 3) rfl w.heap.size rfl (wrb wi wn wk wb A m c).toArray aggW rfl _ (HB35.out.below hC HB35.out.lt) ?_))
      exact ⟨rfl, rfl, (Below.refl _ _), rfl⟩
    · intro uF W hC' hU aF hF
      have hC : Below W5.heap.size W5 W := hC'
      clear hC'
      have h25 : (Det (.agg (wrb wi wn wk wb A m c).toArray)) (uF 3) W := hU.1
      clear hU
      simp only [puts, Act.put, List.setIfInBounds_toArray, List.set_cons_zero, List.set_cons_succ] at hF
      generalize uF 3 = x25 at h25 hF
      obtain rfl : x25 = (.agg (wrb wi wn wk wb A m c).toArray) := h25
      subst hF
      go_wp2_with ((go_at_call 33; refine (own_w wi wn wk wb (HD5.out.below (hC.mono (by omega))) (by have := hC.size; omega) hm).mono ?_; rintro e W1 ⟨A'1, c'1, rfl, ho1, hb⟩))
      exact ⟨rfl, rfl, hb, ⟨_, _, rfl, Row.base_le ho1 (by have := hC.size; omega)⟩⟩
  intro uF W6 hC' hU aF hF
  have hCW6 : Below W5.heap.size W5 W6 := hC'
  clear hC'
  have h24 : (Det (.pointer (some ⟨gq, 0, none⟩))) (uF 2) W6 := hU.2.2.1
  have h26 : (RelWt w.heap.size wi wn wk wb m bs) (uF 4) W6 := hU.2.2.2.2.1
  clear hU
  simp only [List.take_succ_cons, List.take_zero, puts, Act.put, List.setIfInBounds_toArray, List.set_cons_zero, List.set_cons_succ] at hF
  generalize uF 0 = x22 at hF
  generalize uF 1 = x23 at hF
  generalize uF 2 = x24 at h24 hF
  generalize uF 3 = x25 at hF
  generalize uF 4 = x26 at h26 hF
  obtain rfl : x24 = (.pointer (some ⟨gq, 0, none⟩)) := h24
  obtain ⟨A26, c26, rfl, s26⟩ := h26
  subst hF
  simp only [List.drop_succ_cons, List.drop_zero]
  have hv6 := hv5.trans (hCW6.mono hz5)
  have hz6 := hv6.size
  have HR6 := Lib.hid (HR5.out.below hCW6)
  have HS26 := Lib.hid s26
  clear s26
  gi_wp2
  refine ⟨trivial, callsIn_wide.2 ((push_c (base := base) HR6.out hbq hbs hx (wrb_ok wi wn wk wb A26 m c26) _ rfl).mono ?_)⟩
  rintro e W7 ⟨⟨v7, rfl⟩, h7, hb7, hf7⟩
  have H7 := Lib.hid h7
  have HB7 := Lib.hid hb7
  have HF7 := Lib.hid hf7
  clear h7 hb7 hf7
  gi_wp2
  go_wp2_with fail
  go_ret
  refine ⟨rfl, A26, c26, ⟨gs, f, k + 1, _, H7.out, hbq, hbs, (view_push HR0.out.len hx _).symm⟩, Row.ty HS26.out (Ty.of HR6.out HF7.out), (hv6.mono (by omega)).trans HB7.out, Ty.of HR0.out ((Fr.below hv6).trans HF7.out)⟩
end Go.Proofs.Ytkiiobfomnggcaa

