/-
  chap: the answer, whether it is right; the reference's answer.
-/
import Derived.Test.YtiadfbcdopfibaaRelC
import Derived.Test.YtiadfbcdopfibaaNum
import Derived.Test.YtiadfbcdopfibaaEqual
namespace Go.Proofs.Ytiadfbcdopfibaa
open Go.RowKit
set_option linter.unusedVariables false
set_option linter.unusedSimpArgs false
set_option maxRecDepth 100000

/-- A number's low byte. -/
def idB (a : Int) : UInt8 := UInt8.ofNat (a % 256).toNat
theorem b8_idB (a : Int) : Value.int .u8 (a % 256) = b8 (idB a) := by
  rw [b8_def, idB, UInt8.toNat_ofNat']
  congr 1
  omega
/-- The answer's text; the answer. -/
def ansText (id : Int) (secret ch : List UInt8) : List UInt8 := idB id :: (secret ++ ch)
def ansOf (id : Int) (secret ch : List UInt8) : List UInt8 := sha (ansText id secret ch)
theorem len_ansOf (id : Int) (secret ch : List UInt8) : (ansOf id secret ch).length = 32 := len_sha _

set_option maxHeartbeats 1000000 in
theorem answer_c {w : World} {B : Nat} (id : Int) {A A' : Option Addr} {n c n' c' : Nat} {secret ch : List UInt8} (hs : SlB w B A n c secret) (hc : SlB w B A' n' c' ch) (hB : B ≤ w.heap.size) (hn : n ≤ 549755813888) (hn' : n' ≤ 549755813000) :
    Calls Try.prog 44 #[.int .i64 id, .slice A n c, .slice A' n' c'] w fun e w' => e = .returned (.agg (arr8 (ansOf id secret ch))) ∧ Below w.heap.size w w' := by
  have hl := Lib.hid hs.len
  have hl' := Lib.hid hc.len
  have b6 := Blk.new w 34 (arr8 (z8' 32))
  have hb0 := below_alloc w (.cells (arr8 (z8' 32)) 34)
  obtain ⟨v, hv⟩ : ∃ v, v = w.alloc (.cells (arr8 (z8' 32)) 34) := ⟨_, rfl⟩
  rw [← hv] at b6 hb0
  have hz0 := hb0.size
  have HV := Lib.hid hv
  have hx0 := b8_idB id
  have r1 : SlB (v.alloc (.cells #[.int .u8 (id % 256)] 5)) (v.alloc (.cells #[.int .u8 (id % 256)] 5)).heap.size (some ⟨v.heap.size, 0, none⟩) 1 1 [idB id] := SlB.new v _ [idB id] 1 (by simp) rfl (by simp [maxLen]) (by rw [hx0]; rfl)
  have h01 := hb0.trans ((below_alloc v (.cells #[.int .u8 (id % 256)] 5)).mono hz0)
  have hs1 := (hs.below (h01.mono hB)).more (Nat.le_trans hB h01.size)
  have hc1 := (hc.below (h01.mono hB)).more (Nat.le_trans hB h01.size)
  have hp := RelP.three r1 hs1 hc1
  have hfl : ([[idB id], secret, ch] : List (List UInt8)).flatten = ansText id secret ch := by simp [ansText]
  have hlen : ([[idB id], secret, ch] : List (List UInt8)).flatten.length ≤ 1099511627000 := by
    rw [hfl]; simp only [ansText, List.length_cons, List.length_append, hl.out, hl'.out]; omega
  obtain ⟨v1, hv1⟩ : ∃ v1, v1 = v.alloc (.cells #[.int .u8 (id % 256)] 5) := ⟨_, rfl⟩
  rw [← hv1] at r1 h01 hs1 hc1 hp
  have h12 := below_alloc v1 (.cells #[.slice (some ⟨v.heap.size, 0, none⟩) 1 1, .slice A n c, .slice A' n' c'] 22)
  have h02 := h01.trans (h12.mono h01.size)
  have hvv : Below v.heap.size v v1 := by rw [hv1]; exact below_alloc _ _
  have hv2 := hvv.trans (h12.mono hvv.size)
  have HV1 := Lib.hid hv1
  have HZ1 := Lib.hid (show v.heap.size + 1 = v1.heap.size by rw [hv1, World.size_alloc])
  have HP := Lib.hid hp
  clear hv hv1 hs hc hp r1 hs1 hc1 hx0
  go_enter Try.func44, Try.ntmps44
  go_wp2_with (first
    | ((with_reducible show wpList _ _ _ (Oper.mk _ (Op.alloc 34) _ _ _ _ :: _) _ _); refine wpList_alloc_agg rfl 34 rfl (arr8 (z8' 32)) zero44 ?_; rw [← HV.out])
    | (go_at_call 62; rw [← HV1.out, HZ1.out]; refine (of_p HP.out (by omega)).mono ?_; rintro e w3 ⟨rfl, hb3⟩; have h03 := h02.trans (hb3.mono h02.size); have b63 := b6.below (hv2.trans (hb3.mono hv2.size)) b6.lt; rw [hfl])
    | ((with_reducible show wpList _ _ _ (Oper.mk none (Op.store 34 _ _) _ _ _ _ :: _) _ _); refine wpList_store8 rfl 34 (.tmp 6) (.tmp 13) rfl w.heap.size rfl (ansOf id secret ch) rfl agg44 (len_ansOf _ _ _) _ _ b63 (by rw [size_arr8, len_z8']) ?_; intro w4 hb4 hg4 hs4))
  refine bodyPost_ret (results_cell_one rfl _ w.heap.size _ (arr8 (ansOf id secret ch)) agg44 (by rw [size_arr8, len_ansOf]) rfl hb4) rfl ⟨rfl, ?_⟩
  exact h03.grown hg4 h03.size (fun k hk => by cases hk; exact Nat.le_refl _)

set_option maxHeartbeats 1000000 in
theorem refanswer_c {w : World} {B : Nat} (id : Int) {A A' : Option Addr} {n c n' c' : Nat} {secret ch : List UInt8} (hs : SlB w B A n c secret) (hc : SlB w B A' n' c' ch) (hB : B ≤ w.heap.size) (hn : n ≤ 549755813888) (hn' : n' ≤ 549755813000) :
    Calls Try.prog 17 #[.int .i64 id, .slice A n c, .slice A' n' c'] w fun e w' => e = .returned (.agg (arr8 (ansOf id secret ch))) ∧ Below w.heap.size w w' := by
  have b6 := Blk.new w 34 (arr8 (z8' 32))
  have hb0 := below_alloc w (.cells (arr8 (z8' 32)) 34)
  obtain ⟨v, hv⟩ : ∃ v, v = w.alloc (.cells (arr8 (z8' 32)) 34) := ⟨_, rfl⟩
  rw [← hv] at b6 hb0
  have hz0 := hb0.size
  have HV := Lib.hid hv
  have hx0 := b8_idB id
  have h0 : OwB (v.alloc (.cells #[.int .u8 (id % 256)] 5)) v.heap.size (some ⟨v.heap.size, 0, none⟩) 1 1 [idB id] := OwB.lit v v.heap.size _ [idB id] 1 (Nat.le_refl _) rfl (by simp [maxLen]) (by rw [hx0]; rfl)
  have hal := below_alloc v (.cells #[.int .u8 (id % 256)] 5)
  have h01 := hb0.trans (hal.mono hz0)
  have hs1 := Lib.hid ((hs.below (h01.mono hB)))
  have hc1 := Lib.hid (hc.below (hb0.mono hB))
  have H0 := Lib.hid h0
  clear hv hs hc h0 hx0
  go_enter Try.func17, Try.ntmps17
  go_wp2_with (first
    | ((with_reducible show wpList _ _ _ (Oper.mk _ (Op.alloc 34) _ _ _ _ :: _) _ _); refine wpList_alloc_agg rfl 34 rfl (arr8 (z8' 32)) zero44 ?_; rw [← HV.out])
    | (at_builtin; refine wpList_append8 rfl (.tmp 10) (.tmp 11) rfl rfl H0.out rfl hs1.out (by omega) (by simp) (1 + n) rfl ?_; intro A2 c2 v2 h2 q2; have hb2 : Below v.heap.size v v2 := q2.below H0.out hal (Nat.le_refl _) (by simp); have hz2 := hb2.size; have hc2 := hc1.out.below (hb2.mono (Nat.le_trans hB hz0)))
    | (at_builtin; refine wpList_append8 rfl (.tmp 13) (.tmp 14) rfl rfl h2 rfl hc2 (by omega) hz2 (1 + n + n') rfl ?_; intro A3 c3 v3 h3 q3; have hb3 : Below v.heap.size v v3 := q3.below h2 hb2 (Nat.le_refl _) hz2; have hz3 := hb3.size)
    | (go_at_call 35; refine (refof_c (Row.sl h3) (Nat.le_refl _) (by omega)).mono ?_; rintro e v4 ⟨rfl, hb4⟩; have b64 := b6.below (hb3.trans (hb4.mono hz3)) b6.lt; have hw4 := hb0.trans ((hb3.trans (hb4.mono hz3)).mono hz0))
    | ((with_reducible show wpList _ _ _ (Oper.mk none (Op.store 34 _ _) _ _ _ _ :: _) _ _); refine wpList_store8 rfl 34 (.tmp 6) (.tmp 16) rfl w.heap.size rfl (ansOf id secret ch) rfl agg44 (len_ansOf _ _ _) _ _ b64 (by rw [size_arr8, len_z8']) ?_; intro w4 hb4 hg4 hs4))
  refine bodyPost_ret (results_cell_one rfl _ w.heap.size _ (arr8 (ansOf id secret ch)) agg44 (by rw [size_arr8, len_ansOf]) rfl hb4) rfl ⟨rfl, ?_⟩
  exact hw4.grown hg4 hw4.size (fun k hk => by cases hk; exact Nat.le_refl _)

set_option maxHeartbeats 1000000 in
theorem right_c {w : World} {B : Nat} (id : Int) {A A' A2 : Option Addr} {n c n' c' n2 c2 : Nat} {secret ch ans : List UInt8} (hs : SlB w B A n c secret) (hc : SlB w B A' n' c' ch) (ha : SlB w B A2 n2 c2 ans) (hB : B ≤ w.heap.size) (hn : n ≤ 549755813888) (hn' : n' ≤ 549755813000) (r : Bool) (hr : (ansOf id secret ch == ans) = r) :
    Calls Try.prog 48 #[.int .i64 id, .slice A n c, .slice A' n' c', .slice A2 n2 c2] w fun e w' => e = .returned (.bool r) ∧ Below w.heap.size w w' := by
  have HS := Lib.hid hs
  have HC := Lib.hid hc
  have HA := Lib.hid ha
  have HR := Lib.hid hr
  clear hs hc ha hr
  go_enter Try.func48, Try.ntmps48
  go_wp2_with (first
    | (go_at_call 44; refine (answer_c id HS.out HC.out hB hn hn').mono ?_; rintro e v ⟨rfl, hb⟩; have b9 := Blk.new v 34 (arr8 (z8' 32)))
    | ((with_reducible show wpList _ _ _ (Oper.mk _ (Op.alloc 34) _ _ _ _ :: _) _ _); refine wpList_alloc_agg rfl 34 rfl (arr8 (z8' 32)) zero44 ?_; (try rw [World.size_alloc]))
    | ((with_reducible show wpList _ _ _ (Oper.mk none (Op.store 34 _ _) _ _ _ _ :: _) _ _); refine wpList_store8 rfl 34 (.tmp 9) (.tmp 13) rfl v.heap.size rfl (ansOf id secret ch) rfl agg44 (len_ansOf _ _ _) _ _ b9 (by rw [size_arr8, len_z8']) ?_; intro v4 hb4 hg4 hs4; have hw4 := (hb.alloc hb.size _).grown hg4 (Nat.le_trans hb.size (by simp)) (fun k hk => by cases hk; exact hb.size); have hall := arr_all_run (P := Try.prog) (T := 34) Try.underlying34 size1 (by omega) v.heap.size)
    | (go_at_call 58; refine (equal_c (sum_sl hb4 (len_ansOf _ _ _)) (HA.out.below (hw4.mono hB)) r HR.out).mono ?_; rintro e v5 ⟨rfl, rfl⟩))
  go_ret
  exact ⟨rfl, hw4⟩
end Go.Proofs.Ytiadfbcdopfibaa
