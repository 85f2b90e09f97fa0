/-
  chap: number, Draw; the reference's Draw.
-/
import Derived.Test.YtbjiokjmidipaaaNumber
import Derived.Test.YtbjiokjmidipaaaTagUse
import Derived.Test.YtbjiokjmidipaaaGrow
namespace Go.Proofs.Ytbjiokjmidipaaa
open Go.RowKit
set_option linter.unusedVariables false
set_option linter.unusedSimpArgs false
set_option maxRecDepth 100000

theorem bigB_numB (x : Int) : bigB (x % 18446744073709551616).toNat 8 = numB x 8 8 := by
  simp only [bigB, numB]
  refine List.map_congr_left fun t ht => ?_
  have h8 : 8 - 1 - t < 8 := by omega
  have h := ux_byte x (8 - 1 - t) h8
  have e : ux x (8 - 1 - t) = (x % 18446744073709551616).toNat / 256 ^ (8 - 1 - t) := by
    rw [ux, Nat.pow_mul]
  rw [e, IntKind.wrap_u8'] at h
  rw [← UInt8.toNat_inj, UInt8.toNat_ofNat']
  omega

set_option maxHeartbeats 1000000 in
theorem num8_c (x : Int) (w : World) : Calls Try.prog 66 #[.int .i64 x] w fun e w' => ∃ A' c', e = .returned (.slice A' 8 c') ∧ OwB w' w.heap.size A' 8 c' (numB x 8 8) ∧ Below w.heap.size w w' := by
  obtain ⟨u, hu⟩ : ∃ u : Nat, u = (x % 18446744073709551616).toNat := ⟨_, rfl⟩
  have hui : x % 18446744073709551616 = (u : Int) := by omega
  have hwu : IntKind.u64.wrap x = (u : Int) := by rw [wrap_u64]; exact hui
  have hb : bigB u 8 = numB x 8 8 := by rw [hu, bigB_numB]
  have hlt : u < 18446744073709551616 := by omega
  have HB := Lib.hid hb
  clear hu hb
  go_enter Try.func66, Try.ntmps66
  go_wp2_with (go_at_call 83; refine (appendBig_c (OwB.nil w w.heap.size none) (Nat.le_refl _) (by omega) (k := 8) (by omega) (by omega) (x := u) hlt).mono ?_; rintro e W1 ⟨A1, c1, rfl, h1, hb⟩)
  go_ret
  exact ⟨A1, c1, by simp, by have := h1; rw [List.nil_append, HB.out] at this; simpa using this, hb⟩

def drawT : List UInt8 := [100, 114, 97, 119]
def drawOf (seed n : Int) : List UInt8 := hmac (numB seed 8 8) (drawT ++ numB n 8 8)
theorem len_drawOf (seed n : Int) : (drawOf seed n).length = 32 := len_hmac _ _

/-- Bytes of a constant, laid and marked: what '[]byte("..")' of a constant does. -/
theorem mark_c (w : World) (t : List UInt8) (cur : Array Value) (hcur : cur = (t.map b8).toArray) (k : Nat) (ht : t.length = k) (hk2 : k ≤ maxLen) :
    ∃ v2, (convert 22 22 (.slice (some ⟨w.heap.size, 0, none⟩) k k)).run Try.prog (w.alloc (.cells cur 5)) = .ok (.slice (some ⟨w.heap.size, 0, none⟩) k k) v2 ∧ Below w.heap.size w v2 ∧ SlB v2 v2.heap.size (some ⟨w.heap.size, 0, none⟩) k k t := by
  subst hcur
  obtain ⟨g, m, e, l, b, e1, z⟩ := RelK.new (w := w) w.heap.size t k (Nat.le_refl _) ht hk2 _ rfl
  simp only [Value.slice.injEq, Option.some.injEq, Addr.mk.injEq, and_true] at e
  obtain rfl : g = w.heap.size := e.symm
  have HL := LeM.freeze (k := (t.map b8).toArray.size) l b
  refine ⟨_, run_mark k k b, (below_alloc _ _).trans HL.1.1, ?_⟩
  obtain ⟨A, c, e2, h2⟩ := RelK.relB ⟨_, HL.2.choose, rfl, l, HL.2.choose_spec, e1, z⟩
  simp only [Value.slice.injEq, true_and] at e2
  obtain ⟨rfl, rfl⟩ := e2
  exact h2

set_option maxHeartbeats 1000000 in
theorem draw_c (seed n : Int) (w : World) : Calls Try.prog 43 #[.int .i64 seed, .int .i64 n] w fun e w' => e = .returned (.agg (arr8 (drawOf seed n))) ∧ Below w.heap.size w w' := by
  have b4 := Blk.new w 40 (arr8 (z8' 32))
  have hb0 := below_alloc w (.cells (arr8 (z8' 32)) 40)
  obtain ⟨v, hv⟩ : ∃ v, v = w.alloc (.cells (arr8 (z8' 32)) 40) := ⟨_, rfl⟩
  rw [← hv] at b4 hb0
  have hz0 := hb0.size
  have HV := Lib.hid hv
  clear hv
  have HFL := Lib.hid (show ([drawT, numB n 8 8] : List (List UInt8)).flatten = drawT ++ numB n 8 8 from by simp)
  have htot : ([drawT, numB n 8 8] : List (List UInt8)).flatten.length ≤ 1099511627000 := by
    rw [HFL.out, List.length_append, len_numB]; decide
  have HT := Lib.hid htot
  clear htot
  go_enter Try.func43, Try.ntmps43
  go_wp2_with (first
    | ((with_reducible show wpList _ _ _ (Oper.mk _ (Op.alloc 40) _ _ _ _ :: _) _ _); refine wpList_alloc_agg rfl 40 rfl (arr8 (z8' 32)) zero44 ?_; rw [← HV.out])
    | (go_at_call 66; (with_reducible show Calls _ _ _ v _); refine (num8_c seed v).mono ?_; rintro e v1 ⟨A1, c1, rfl, h1, hb1⟩; obtain ⟨v2, hcv, hb2, hm2⟩ := mark_c v1 drawT #[.int .u8 100, .int .u8 114, .int .u8 97, .int .u8 119] rfl 4 rfl (by decide); have h02 := hb1.trans (hb2.mono hb1.size); have h12 := h1.below hb2; have hz2 := h02.size)
    | (go_at_call 66; (with_reducible show Calls _ _ _ v2 _); refine (num8_c n v2).mono ?_; rintro e v3 ⟨A3, c3, rfl, h3, hb3⟩; have h13 := h12.below hb3; have hm3 := (hm2.below hb3).more hb3.size; have h03 := h02.trans (hb3.mono hz2); have hz3 := h03.size; have hal := below_alloc v3 (.cells #[.slice (some ⟨v1.heap.size, 0, none⟩) 4 4, .slice A3 8 c3] 22); have HP := Lib.hid (RelP.two hm3 h3.sl))
    | (go_at_call 57; refine (tag_p ((h13.below hal).sl) (Nat.le_refl _) (by omega) HP.out HT.out (by omega)).mono ?_; rintro e v4 ⟨rfl, hb4⟩; rw [HFL.out]; have h04 := h03.trans ((hal.trans (hb4.mono hal.size)).mono hz3); have b44 := b4.below h04 b4.lt)
    | ((with_reducible show wpList _ _ _ (Oper.mk none (Op.store 40 _ _) _ _ _ _ :: _) _ _); refine wpList_store8 rfl 40 (.tmp 4) (.tmp 12) rfl w.heap.size rfl (drawOf seed n) rfl agg44 (len_drawOf _ _) _ _ b44 (by rw [size_arr8, len_z8']) ?_; intro w4 hb4' hg4 hs4))
  refine bodyPost_ret (results_cell_one rfl _ w.heap.size _ (arr8 (drawOf seed n)) agg44 (by rw [size_arr8, len_drawOf]) rfl hb4') rfl ⟨rfl, ?_⟩
  have hw := hb0.trans (h04.mono hz0)
  exact hw.grown hg4 hw.size (fun k hk => by cases hk; exact Nat.le_refl _)

set_option maxHeartbeats 1000000 in
theorem refdraw_c (seed n : Int) (hs : (Lit.int .i64 seed).wf = true) (hn : (Lit.int .i64 n).wf = true) (w : World) : Calls Try.prog 42 #[.int .i64 seed, .int .i64 n] w fun e w' => e = .returned (.agg (arr8 (drawOf seed n))) ∧ Below w.heap.size w w' := by
  have b4 := Blk.new w 40 (arr8 (z8' 32))
  have hb0 := below_alloc w (.cells (arr8 (z8' 32)) 40)
  obtain ⟨v, hv⟩ : ∃ v, v = w.alloc (.cells (arr8 (z8' 32)) 40) := ⟨_, rfl⟩
  rw [← hv] at b4 hb0
  have hz0 := hb0.size
  have HV := Lib.hid hv
  clear hv
  go_enter Try.func42, Try.ntmps42
  go_wp2_with (first
    | ((with_reducible show wpList _ _ _ (Oper.mk _ (Op.alloc 40) _ _ _ _ :: _) _ _); refine wpList_alloc_agg rfl 40 rfl (arr8 (z8' 32)) zero44 ?_; rw [← HV.out])
    | (go_at_call 65; (with_reducible show Calls _ _ _ v _); refine (number_ok (k := 8) seed hs ⟨.inr (.inr (.inr rfl)), .inl rfl⟩).mono ?_; rintro e v1 ⟨A1, c1, rfl, h1, hb1⟩)
    | (go_at_call 65; (with_reducible show Calls _ _ _ v1 _); refine (number_ok (k := 8) n hn ⟨.inr (.inr (.inr rfl)), .inl rfl⟩).mono ?_; rintro e v2 ⟨A2, c2, rfl, h2, hb2⟩; obtain ⟨v3, hcv, hb3, hm3⟩ := mark_c v2 drawT #[.int .u8 100, .int .u8 114, .int .u8 97, .int .u8 119] rfl 4 rfl (by decide); have h02 := hb1.trans (hb2.mono hb1.size); have h03 := h02.trans (hb3.mono h02.size); have h13 := (h1.below hb2).below hb3; have h23 := h2.below hb3)
    | (at_builtin; refine wpList_append8G rfl (.tmp 21) (.tmp 22) rfl rfl hm3 rfl h23.sl (by omega) (by omega) 12 rfl ?_; intro c4 v4 h4 hb4; have h14 := h13.below hb4; have h04 := h03.trans (hb4.mono h03.size))
    | (go_at_call 58; refine (reftag_c h14.sl (Nat.le_refl _) (by omega) (Row.sl h4) (Nat.le_refl _) (by omega)).mono ?_; rintro e v5 ⟨rfl, hb5⟩; have h05 := h04.trans (hb5.mono h04.size); have b45 := b4.below h05 b4.lt)
    | ((with_reducible show wpList _ _ _ (Oper.mk none (Op.store 40 _ _) _ _ _ _ :: _) _ _); refine wpList_store8 rfl 40 (.tmp 4) (.tmp 24) rfl w.heap.size rfl (drawOf seed n) rfl agg44 (len_drawOf _ _) _ _ b45 (by rw [size_arr8, len_z8']) ?_; intro w4 hb4' hg4 hs4))
  refine bodyPost_ret (results_cell_one rfl _ w.heap.size _ (arr8 (drawOf seed n)) agg44 (by rw [size_arr8, len_drawOf]) rfl hb4') rfl ⟨rfl, ?_⟩
  have hw := hb0.trans (h05.mono hz0)
  exact hw.grown hg4 hw.size (fun k hk => by cases hk; exact Nat.le_refl _)
end Go.Proofs.Ytbjiokjmidipaaa
