/-
  words.Rows and words.Whole.
-/
import Derived.Test.YtkiiobfomnggcaaRowsIt
namespace Go.Proofs.Ytkiiobfomnggcaa
open Go.RowKit Go.Shelf
set_option linter.unusedVariables false
set_option linter.unusedSimpArgs false
set_option maxRecDepth 100000
attribute [local go_sem] Oper.semAt_some

theorem wp_at {P : Program} {C : Code} {Q : Exit → Act → World → Prop} {a : Act} {w : World} (h : ∀ a0, a0 = a → C.wp P Q a0 w) : C.wp P Q a w := h a rfl
theorem fold_two (p q : Tmp) (v u : Value) (t : Array Value) : ((#[p, q].zip #[v, u]).foldl (fun t (x : Tmp × Value) => match x with | (p, v) => t.setIfInBounds p v) t) = (t.setIfInBounds p v).setIfInBounds q u := by simp
theorem not_wrote {w : World} {base n c g : Nat} {A : Option Addr} {bs : List UInt8} (h : OwB w base A n c bs) (hg : g < base) : wrote A c ≠ some g := by
  rcases Row.wrote_lt h with h1 | ⟨g', _, h1, hb, _⟩
  · rw [h1]; exact fun e => by cases e
  · rw [h1]; exact fun e => by cases e; omega

theorem eaten_le : ∀ (k : Nat) (bs : List UInt8), bs.length ≤ k → eaten (rowsOf bs) ≤ bs.length := by
  intro k
  induction k with
  | zero =>
    intro bs h
    cases hm : rowLen bs with
    | none => rw [rowsOf_none hm]; simp [eaten]
    | some m => have := (rowLen_some hm).1; omega
  | succ k ih =>
    intro bs h
    cases hm : rowLen bs with
    | none => rw [rowsOf_none hm]; simp [eaten]
    | some m =>
      have h1 := (rowLen_some hm).1
      have h2 := ih (bs.drop (2 + m)) (by rw [List.length_drop]; omega)
      rw [List.length_drop] at h2
      rw [rowsOf_some hm]
      have e : eaten ((bs.drop 2).take m :: rowsOf (bs.drop (2 + m))) = 2 + ((bs.drop 2).take m).length + eaten (rowsOf (bs.drop (2 + m))) := by simp [eaten]
      rw [e, List.length_take, List.length_drop]
      omega
theorem eaten_append (a b : List (List UInt8)) : eaten (a ++ b) = eaten a + eaten b := by simp [eaten]
theorem atR_le (bs : List UInt8) (j : Nat) : atR bs j ≤ bs.length := by
  have h1 := eaten_le bs.length bs (Nat.le_refl _)
  have h2 : eaten (rowsOf bs) = atR bs j + eaten ((rowsOf bs).drop j) := by rw [atR, ← eaten_append, List.take_append_drop]
  omega
theorem atR_all (bs : List UInt8) : atR bs (rowsOf bs).length = eaten (rowsOf bs) := by rw [atR, List.take_length]

set_option maxHeartbeats 2000000 in
theorem rows_c {w : World} {B : Nat} {A : Option Addr} {n c : Nat} {bs : List UInt8} (ha : SlB w B A n c bs) (hB : B ≤ w.heap.size) (hn : n ≤ 1099511627776) :
    Calls Try.prog 10 #[.slice A n c] w fun e w' => ∃ g A' c', e = .returned (.func (.func 30) #[] #[.pointer (some ⟨g, 0, none⟩)]) ∧ w.heap.size ≤ g ∧ Blk w' g 22 #[.slice A' n c'] ∧ OwB w' w.heap.size A' n c' bs ∧ wrote A' c' ≠ some g ∧ Below w.heap.size w w' := by
  have HA := Lib.hid ha
  clear ha
  go_enter Try.func10, Try.ntmps10
  go_wp2_with (go_at_call 29; refine (clone_c HA.out hB (by omega)).mono ?_; rintro e w1 ⟨A1, c1, rfl, h1, hb1, _⟩; have hz1 := hb1.size)
  go_ret
  have hb2 := below_alloc w1 (.cells #[.slice A1 n c1] 22)
  exact ⟨w1.heap.size, A1, c1, rfl, hz1, Blk.new _ _ _, OwB.below h1 hb2, by
    rcases Row.wrote_lt h1 with h | ⟨g', _, h, _, hlt, _⟩
    · rw [h]; exact fun e => by cases e
    · rw [h]; exact fun e => by cases e; omega, hb1.trans (hb2.mono hz1)⟩

set_option maxHeartbeats 4000000 in
theorem whole_c {w : World} {B : Nat} {A : Option Addr} {n c : Nat} {bs : List UInt8} (ha : SlB w B A n c bs) (hB : B ≤ w.heap.size) (hn : n ≤ 1048576) (r : Bool) (hr : ((eaten (rowsOf bs) : Nat) == n) = r) :
    Calls Try.prog 8 #[.slice A n c] w fun e w' => e = .returned (.bool r) ∧ Below w.heap.size w w' := by
  have hlen := ha.len
  obtain ⟨g3, hg3⟩ : ∃ g, g = w.heap.size := ⟨_, rfl⟩
  obtain ⟨v, hv⟩ : ∃ v, v = w.alloc (.cells #[.int .i64 0] 3) := ⟨_, rfl⟩
  have b3 : Blk v g3 3 #[.int .i64 0] := by rw [hv, hg3]; exact Blk.new _ _ _
  have hbv : Below w.heap.size w v := by rw [hv]; exact below_alloc _ _
  have hz := hbv.size
  have hg3v := b3.lt
  have HV := Lib.hid hv
  have HG := Lib.hid hg3
  have HA := Lib.hid (ha.below (hbv.mono hB))
  have HB3 := Lib.hid b3
  have HR := Lib.hid hr
  have hgw : w.heap.size ≤ g3 := by omega
  clear hv hg3 ha b3 hr
  refine calls_of_wp_marks Try.func8 rfl ?_
  simp only [Try.ntmps8, List.size_toArray, List.length_cons, List.length_nil, Nat.reduceAdd, Nat.reduceSub, Array.replicate_succ, Array.replicate_zero, List.push_toArray, List.append_toArray, List.nil_append, List.cons_append]
  go_wp2_with (go_at_call 10; rw [← HV.out, ← HG.out]; refine (rows_c HA.out (Nat.le_trans hB hz) (by omega)).mono ?_; rintro e w2 ⟨g, A2, c2, rfl, hg2, q2, o2, hn2, hb2⟩; have hw2 := hbv.trans (hb2.mono hz); have hz2 := hw2.size; have b32 := HB3.out.below hb2 HB3.out.lt)
  have hg32 := b32.lt
  have HB32 := Lib.hid b32
  have HQ2 := Lib.hid q2
  have HO2 := Lib.hid o2
  have HW2 := Lib.hid hw2
  clear b32 q2 o2 hw2
  refine wp_at fun a0 ha0 => ?_
  refine wp_rangeG (O := fun k => k = g3) (a := a0) (by rw [ha0]; rfl) (enters_of Try.func30 (by kernel_rfl) rfl) (rows_iter HQ2.out HO2.out (by omega)) (Below.refl _ _) (fun _ => rfl) (fun k hk => ⟨⟨by rw [hk]; omega, by rw [hk]; exact not_wrote HO2.out (by omega)⟩, by rw [hk]; exact hg32⟩)
    (fun O' pre W' => O' g3 ∧ Blk W' g3 3 #[.int .i64 (atR bs pre.length : Int)] ∧ Below w.heap.size w W')
    (fun c pre W' => False) (fun O' => ownFrom_of fun s X X' hs hc => ⟨hs.1, hc.blk hs.2.1, hc.below hs.2.2 hz2 (Nat.le_refl _)⟩) (fun c => ownFrom_of fun s X X' hs hc => hs)
    (fun O' pre Wa Wb g hi hb hg => ⟨.inl hi.1, hi.2.1.below hb hi.2.1.lt, hi.2.2.trans (hb.mono hi.2.2.size)⟩) ⟨rfl, HB32.out, HW2.out⟩
    (fun O' pre x a' W' => (O' g3 ∧ Blk W' g3 3 #[.int .i64 (atR bs pre.length : Int)] ∧ Below w.heap.size w W') ∧ x.1 = pre.length ∧ x.1 < (rowsOf bs).length ∧ a' = { tmps := (((a0.tmps.setIfInBounds 8 (.int .i64 (atR bs x.1 : Int))).setIfInBounds 9 (.slice x.2.1 (rowR bs x.1).length x.2.2)).setIfInBounds 4 (.int .i64 (atR bs x.1 : Int))).setIfInBounds 5 (.slice x.2.1 (rowR bs x.1).length x.2.2), defers := [] })
    (fun O' pre x a' => ownFrom_of fun s X X' hs hc => ⟨⟨hs.1.1, hc.blk hs.1.2.1, hc.below hs.1.2.2 hz2 (Nat.le_refl _)⟩, hs.2⟩) ?_ ?_ ?_ ?_
  · rintro l' O' pre x W' K hI ⟨hx1, hx2, _, _⟩ hK
    have HX1 := Lib.hid hx1
    clear hx1
    rw [encR]
    simp only [fold_two]
    subst ha0
    simp only [List.setIfInBounds_toArray, List.set_cons_succ, List.set_cons_zero]
    gi_wp2
    exact hK O' _ _ (Kept.refl _ _) ⟨hI, HX1.out, hx2, rfl⟩
  · rintro l' O' pre x a' W' ⟨⟨ho, b3, hbw⟩, hx1, hx2, rfl⟩
    subst ha0
    rw [← hx1] at b3
    have hs := atR_succ hx2
    have hle := atR_le bs (x.1 + 1)
    obtain ⟨a, ea⟩ : ∃ a, a = atR bs x.1 := ⟨_, rfl⟩
    obtain ⟨ln, el⟩ : ∃ ln, ln = (rowR bs x.1).length := ⟨_, rfl⟩
    obtain ⟨a2, e2⟩ : ∃ a2, a2 = atR bs (x.1 + 1) := ⟨_, rfl⟩
    rw [← ea, ← el, ← e2] at hs
    rw [← e2, hlen] at hle
    rw [← ea] at b3
    rw [← ea, ← el]
    have hval : (a : Int) + 2 + (ln : Int) = (a2 : Int) := by omega
    have ha0' : (0 : Int) ≤ (a : Int) := by omega
    have hab : (a : Int) ≤ 1048576 := by omega
    have hl0 : (0 : Int) ≤ (ln : Int) := by omega
    have hlb : (ln : Int) ≤ 1048576 := by omega
    have k3 : W'.cell? ⟨g3, 0, none⟩ = some (.int .i64 (a : Int)) := by rw [b3.cell]; rfl
    have f3 := b3.frozen 0
    obtain ⟨V, hV⟩ : ∃ V, V = W'.setCell ⟨g3, 0, none⟩ (.int .i64 (a2 : Int)) := ⟨_, rfl⟩
    have bV : Blk V g3 3 #[.int .i64 (a2 : Int)] := by rw [hV]; simpa using b3.set_ 0 (.int .i64 (a2 : Int))
    have hkV : Kept O' O' W' V := by rw [hV]; exact Kept.setCell ho 0 _
    have hbV : Below w.heap.size w V := by rw [hV]; exact hbw.setCell (p := ⟨g3, 0, none⟩) hgw _
    have HX := Lib.hid (show (pre ++ [x]).length = x.1 + 1 by rw [List.length_append, hx1]; rfl)
    have HE2 := Lib.hid e2
    have HV3 := Lib.hid hV
    have HBV := Lib.hid bV
    have HKV := Lib.hid hkV
    have HWV := Lib.hid hbV
    clear hx1 hs ea el e2 hV bV hkV hbV b3 hbw
    simp only [List.setIfInBounds_toArray, List.set_cons_succ, List.set_cons_zero]
    gi_wp2
    rw [← HV3.out]
    exact ⟨O', HKV.out, ho, by rw [HX.out, ← HE2.out]; exact HBV.out, HWV.out⟩
  · rintro D O' xs W' hD hxs ⟨ho, b3, hbw⟩ hK
    subst ha0
    rw [hxs, atR_all] at b3
    obtain ⟨ea, hea⟩ : ∃ ea, ea = eaten (rowsOf bs) := ⟨_, rfl⟩
    rw [← hea] at b3
    have k3 : W'.cell? ⟨g3, 0, none⟩ = some (.int .i64 (ea : Int)) := by rw [b3.cell]; rfl
    have hrr : ((ea : Int) == (n : Int)) = r := by
      rw [← HR.out, ← hea]
      exact Bool.eq_iff_iff.2 (by simp; omega)
    have HBW := Lib.hid hbw
    have HK := Lib.hid hK
    clear b3 hbw hK hea hxs
    go_wp2_with fail
    refine ⟨by simp, .inl ⟨_, _, rfl, run_takeDeferred HK.out, ?_⟩⟩
    refine ⟨_, results_tmp rfl _ _ _, rfl, ?_⟩
    exact (calm_putObj (B := w.heap.size) _ (Nat.le_trans hz2 hD) HK.out rfl).below HBW.out (Nat.le_refl _) (Nat.le_refl _)
  · rintro D c pre W' hD _ h
    exact h.elim
end Go.Proofs.Ytkiiobfomnggcaa
