/-
  PduBytes: which bytes a list of frames has: those in form, in order.
-/
import Derived.Test.YtjjpifppdjpcnaaBytes
import Derived.Test.YtjjpifppdjpcnaaErr
namespace Go.Proofs.Ytjjpifppdjpcnaa.pduBytes
open Go.RowKit
set_option linter.unusedVariables false
set_option linter.unusedSimpArgs false
set_option maxRecDepth 100000

theorem encs_at {fs : List FrV} {i : Nat} {f : FrV} {b : List UInt8} (hi : fs[i]? = some f) (hb : enc1 f = some b) : (encs fs)[(encs (fs.take i)).length]? = some b := by
  have hlt := (List.getElem?_eq_some_iff.1 hi).1
  have e : fs = fs.take i ++ f :: fs.drop (i + 1) := by
    rw [List.getElem?_eq_getElem hlt, Option.some.injEq] at hi
    rw [← hi, ← List.drop_eq_getElem_cons hlt, List.take_append_drop]
  have e2 : encs fs = encs (fs.take i) ++ b :: encs (fs.drop (i + 1)) := by
    conv => lhs; rw [e]
    rw [encs, List.filterMap_append, List.filterMap_cons, hb]
    rfl
  rw [e2, List.getElem?_append_right (Nat.le_refl _), Nat.sub_self]
  rfl
theorem mem_encs {w : World} {B : Nat} {fs : List FrV} (h : ∀ f ∈ fs, SlB w B f.A f.m f.c f.ds) {r : List UInt8} (hr : r ∈ encs fs) : r.length ≤ 4104 := by
  obtain ⟨f, hf, he⟩ := List.mem_filterMap.1 hr
  have hl := (h f hf).len
  unfold enc1 at he
  split at he
  · rename_i hok
    have := hok.2.2.2.2.2.2
    simp only [Option.some.injEq] at he
    rw [← he, len_frB]
    omega
  · cases he
def twoF : List FrV := [⟨0, 0, 0, none, 0, 0, []⟩, ⟨7, 0, 10, none, 0, 0, []⟩]
theorem encs_two : encs twoF = [[7, 0, 0, 0, 0, 10, 0, 0]] := by decide
/-- How long frames are, as the law counts. -/
def cnt (fs : List FrV) : Nat := (fs.map fun f => 1 + f.m).sum
theorem cnt_snoc (fs : List FrV) (f : FrV) : cnt (fs ++ [f]) = cnt fs + (1 + f.m) := by simp [cnt]
theorem len_cnt (fs : List FrV) : fs.length ≤ cnt fs := by
  induction fs with
  | nil => simp
  | cons f fs ih => simp only [cnt, List.map_cons, List.sum_cons, List.length_cons] at *; omega

set_option maxHeartbeats 4000000 in
theorem walk (v0 : Value) (w : World) (R0 : Rds w (.slice (.cons (.int .i64) (.cons (.int .i64) (.cons (.int .i64) (.cons (.slice (.int .u8) 1 1) .nil)))) 4 48) [v0]) :
    Calls Try.prog 4 #[v0] w fun e w' => e = .returned (.bool true) ∧ Below w.heap.size w w' := by
  obtain ⟨A, n, c, rows, e0, hcb, hrn, hrr, hsl⟩ := R0
  obtain ⟨fs, rfl, hfs⟩ := frames_of rows hrr
  simp only [List.cons.injEq, and_true] at e0
  subst e0
  rw [List.length_map] at hrn
  have hcm : c ≤ 9223372036854775807 := hsl.2.2.1
  have hnc : n ≤ c := hsl.2.1
  have HF := Lib.hid (show SlF w w.heap.size A n c fs from ⟨hsl, hrn, fun f hf => (hfs f hf).1⟩)
  have HFC := Lib.hid (fun (f : FrV) (hf : f ∈ fs) => (hfs f hf).2)
  have HFL := Lib.hid hrn
  have bl := Blk.new w 24 #[.int .i64 0, .int .i64 0, .int .i64 0, .slice none 0 0, .int .i64 7, .int .i64 0, .int .i64 10, .slice none 0 0]
  obtain ⟨vt, hvt⟩ : ∃ vt, vt = w.alloc (.cells #[.int .i64 0, .int .i64 0, .int .i64 0, .slice none 0 0, .int .i64 7, .int .i64 0, .int .i64 10, .slice none 0 0] 24) := ⟨_, rfl⟩
  rw [← hvt] at bl
  have hbt : Below w.heap.size w vt := by rw [hvt]; exact below_alloc _ _
  have hzt := hbt.size
  have hst : SlF vt vt.heap.size (some ⟨w.heap.size, 0, none⟩) 2 2 twoF := ⟨⟨rfl, Nat.le_refl _, by simp [maxLen], fun _ => ⟨w.heap.size, 0, rfl, bl.lt, fun j u hu => by rw [Nat.zero_add, bl.cell]; simpa [twoF, FrV.cells] using hu⟩⟩, rfl, fun f hf => by
    simp only [twoF, List.mem_cons, List.not_mem_nil, or_false] at hf
    rcases hf with rfl | rfl
    · exact SlB.nil _ _ _
    · exact SlB.nil _ _ _⟩
  have HVT := Lib.hid hvt
  clear hvt hsl hfs hrr hrn bl
  go_enter Try.func4, Try.ntmps4
  go_wp2_with (go_at_call 21; rw [← HVT.out]; refine (bytes_c hst (Nat.le_refl _) (by omega)).mono ?_; rintro e w1 ⟨A1, c1, ls1, rfl, hr1, ho1, hf1, hb1⟩; rw [encs_two] at ho1; have hl1 : ls1.length = 1 := ho1.1; rw [hl1] at hr1 ⊢; obtain ⟨l1, hl1g⟩ : ∃ l, ls1[0]? = some l := ⟨_, List.getElem?_eq_getElem (by omega)⟩; have hol := ho1.2 0 l1 _ hl1g rfl; have hln : l1.n = 8 := hol.len.symm; have hv1 := hbt.trans (hb1.mono hzt); have hz1 := hv1.size; obtain ⟨bb, off, rfl, hbb, hcc⟩ := hr1.sl.at_ (by have := hr1.2.1; omega); have hc0 := hcc 0 l1.val (by rw [List.getElem?_map, hl1g]; rfl); rw [Nat.add_zero, Lst.val, hln] at hc0; rw [hln] at hol; have hr1c := hr1.2.1; have hr1m : c1 ≤ 9223372036854775807 := hr1.2.2.1; obtain ⟨lA, hlA⟩ : ∃ x, x = l1.A := ⟨_, rfl⟩; obtain ⟨lc, hlc⟩ : ∃ x, x = l1.c := ⟨_, rfl⟩; rw [← hlA, ← hlc] at hol hc0; have HC0 := Lib.hid hc0; have HOL := Lib.hid hol; clear hcc hc0 hol hlA hlc hl1g hln hl1 ho1 hf1 hr1)
  refine wp_region_rel (fun W W' => Below W.heap.size W W') (fun W => Below w1.heap.size w1 W)
    [Det (.slice (some ⟨bb, off, none⟩) 1 c1), Det (.int .i64 1), Det (.bool false), Det (.bool false), Det (.slice (some ⟨bb, off, none⟩) 1 c1), Det (.pointer (some ⟨bb, off, none⟩)), Det (.slice lA 8 lc), Det (.string ⟨#[7, 0, 0, 0, 0, 10, 0, 0]⟩), Det (.string ⟨#[7, 0, 0, 0, 0, 10, 0, 0]⟩), Det (.bool false), Det (.bool false)]
    [[], [(0, some 17)], [(1, some 18)], [(2, some 19)], [(3, some 20)], [(4, some 21), (3, some 20)], [(5, some 22), (3, some 20)], [(6, some 23), (3, some 20)], [(3, some 20)], [(7, some 24), (8, some 25), (3, some 20)], [(3, some 20), (9, some 26)]]
    [[], [0], [0, 1], [0, 1, 2], [0, 1, 2, 3], [0, 1, 2, 3, 4], [0, 1, 2, 3, 4, 5], [0, 1, 2, 3, 4, 5, 6], [0, 1, 2, 3], [0, 1, 2, 3, 4, 5, 6, 7, 8], [0, 1, 2, 3, 4, 5, 6, 7, 8, 9]]
    [(0, some 17), (1, some 18), (2, some 19), (3, some 20), (4, some 21), (5, some 22), (6, some 23), (7, some 24), (8, some 25), (9, some 26), (10, some 27)] (by kernel_rfl) (by kernel_rfl) (fun W W' h1 h2 => h1.trans (h2.mono h1.size)) ((Below.refl _ _).drew) ?_ ?_ ?_
  · exact (AllMono.cons Det.later (AllMono.cons Det.later (AllMono.cons Det.later (AllMono.cons Det.later (AllMono.cons Det.later (AllMono.cons Det.later (AllMono.cons Det.later (AllMono.cons Det.later (AllMono.cons Det.later (AllMono.cons Det.later (AllMono.cons Det.later AllMono.nil)))))))))))
  · refine AllOb.cons ?_ (AllOb.cons ?_ (AllOb.cons ?_ (AllOb.cons ?_ (AllOb.cons ?_ (AllOb.cons ?_ (AllOb.cons ?_ (AllOb.cons ?_ (AllOb.cons ?_ (AllOb.cons ?_ (AllOb.cons ?_ (AllOb.nil)))))))))))
    · intro uF W hC' hU aF hF
      have hC : Below w1.heap.size w1 W := hC'
      clear hC'
      simp only [puts] at hF
      subst hF
      go_wp2_with (fail)
      exact ⟨rfl, rfl, (Below.refl _ _), rfl⟩
    · intro uF W hC' hU aF hF
      have hC : Below w1.heap.size w1 W := hC'
      clear hC'
      have h17 : (Det (.slice (some ⟨bb, off, none⟩) 1 c1)) (uF 0) W := hU.1
      clear hU
      simp only [puts, Act.put, List.setIfInBounds_toArray, List.set_cons_zero, List.set_cons_succ] at hF
      generalize uF 0 = x17 at h17 hF
      obtain rfl : x17 = (.slice (some ⟨bb, off, none⟩) 1 c1) := h17
      subst hF
      go_wp2_with (fail)
      exact ⟨rfl, rfl, (Below.refl _ _), rfl⟩
    · intro uF W hC' hU aF hF
      have hC : Below w1.heap.size w1 W := hC'
      clear hC'
      have h18 : (Det (.int .i64 1)) (uF 1) W := hU.1
      clear hU
      simp only [puts, Act.put, List.setIfInBounds_toArray, List.set_cons_zero, List.set_cons_succ] at hF
      generalize uF 1 = x18 at h18 hF
      obtain rfl : x18 = (.int .i64 1) := h18
      subst hF
      go_wp2_with (fail)
      exact ⟨rfl, rfl, (Below.refl _ _), rfl⟩
    · intro uF W hC' hU aF hF
      have hC : Below w1.heap.size w1 W := hC'
      clear hC'
      have h19 : (Det (.bool false)) (uF 2) W := hU.1
      clear hU
      simp only [puts, Act.put, List.setIfInBounds_toArray, List.set_cons_zero, List.set_cons_succ] at hF
      generalize uF 2 = x19 at h19 hF
      obtain rfl : x19 = (.bool false) := h19
      subst hF
      go_wp2_with (fail)
      exact ⟨rfl, rfl, (Below.refl _ _), rfl⟩
    · intro uF W hC' hU aF hF
      have hC : Below w1.heap.size w1 W := hC'
      clear hC'
      have h20 : (Det (.bool false)) (uF 3) W := hU.1
      clear hU
      simp only [puts, Act.put, List.setIfInBounds_toArray, List.set_cons_zero, List.set_cons_succ] at hF
      generalize uF 3 = x20 at h20 hF
      obtain rfl : x20 = (.bool false) := h20
      subst hF
      go_wp2_with (fail)
      exact ⟨rfl, rfl, (Below.refl _ _), rfl⟩
    · intro uF W hC' hU aF hF
      have hC : Below w1.heap.size w1 W := hC'
      clear hC'
      have h21 : (Det (.slice (some ⟨bb, off, none⟩) 1 c1)) (uF 4) W := hU.1
      have h20 : (Det (.bool false)) (uF 3) W := hU.2.1
      clear hU
      simp only [puts, Act.put, List.setIfInBounds_toArray, List.set_cons_zero, List.set_cons_succ] at hF
      generalize uF 4 = x21 at h21 hF
      generalize uF 3 = x20 at h20 hF
      obtain rfl : x21 = (.slice (some ⟨bb, off, none⟩) 1 c1) := h21
      obtain rfl : x20 = (.bool false) := h20
      subst hF
      go_wp2_with (fail)
      exact ⟨rfl, rfl, (Below.refl _ _), rfl⟩
    · intro uF W hC' hU aF hF
      have hC : Below w1.heap.size w1 W := hC'
      clear hC'
      have h22 : (Det (.pointer (some ⟨bb, off, none⟩))) (uF 5) W := hU.1
      have h20 : (Det (.bool false)) (uF 3) W := hU.2.1
      clear hU
      simp only [puts, Act.put, List.setIfInBounds_toArray, List.set_cons_zero, List.set_cons_succ] at hF
      generalize uF 5 = x22 at h22 hF
      generalize uF 3 = x20 at h20 hF
      obtain rfl : x22 = (.pointer (some ⟨bb, off, none⟩)) := h22
      obtain rfl : x20 = (.bool false) := h20
      subst hF
      have k0 := (hC.cell (show (⟨bb, off, none⟩ : Addr).block < w1.heap.size from hbb)).trans HC0.out
      go_wp2_with (fail)
      exact ⟨rfl, rfl, (Below.refl _ _), rfl⟩
    · intro uF W hC' hU aF hF
      have hC : Below w1.heap.size w1 W := hC'
      clear hC'
      have h23 : (Det (.slice lA 8 lc)) (uF 6) W := hU.1
      have h20 : (Det (.bool false)) (uF 3) W := hU.2.1
      clear hU
      simp only [puts, Act.put, List.setIfInBounds_toArray, List.set_cons_zero, List.set_cons_succ] at hF
      generalize uF 6 = x23 at h23 hF
      generalize uF 3 = x20 at h20 hF
      obtain rfl : x23 = (.slice lA 8 lc) := h23
      obtain rfl : x20 = (.bool false) := h20
      subst hF
      have e24 := (OwB.sl (HOL.out.below hC)).str
      go_wp2_with (fail)
      exact ⟨rfl, rfl, (Below.refl _ _), rfl⟩
    · intro uF W hC' hU aF hF
      have hC : Below w1.heap.size w1 W := hC'
      clear hC'
      have h20 : (Det (.bool false)) (uF 3) W := hU.1
      clear hU
      simp only [puts, Act.put, List.setIfInBounds_toArray, List.set_cons_zero, List.set_cons_succ] at hF
      generalize uF 3 = x20 at h20 hF
      obtain rfl : x20 = (.bool false) := h20
      subst hF
      go_wp2_with ((go_at_call 14; refine (ten_c _).mono ?_; rintro e W1 ⟨rfl, rfl⟩))
      exact ⟨rfl, rfl, (Below.refl _ _), rfl⟩
    · intro uF W hC' hU aF hF
      have hC : Below w1.heap.size w1 W := hC'
      clear hC'
      have h24 : (Det (.string ⟨#[7, 0, 0, 0, 0, 10, 0, 0]⟩)) (uF 7) W := hU.1
      have h25 : (Det (.string ⟨#[7, 0, 0, 0, 0, 10, 0, 0]⟩)) (uF 8) W := hU.2.1
      have h20 : (Det (.bool false)) (uF 3) W := hU.2.2.1
      clear hU
      simp only [puts, Act.put, List.setIfInBounds_toArray, List.set_cons_zero, List.set_cons_succ] at hF
      generalize uF 7 = x24 at h24 hF
      generalize uF 8 = x25 at h25 hF
      generalize uF 3 = x20 at h20 hF
      obtain rfl : x24 = (.string ⟨#[7, 0, 0, 0, 0, 10, 0, 0]⟩) := h24
      obtain rfl : x25 = (.string ⟨#[7, 0, 0, 0, 0, 10, 0, 0]⟩) := h25
      obtain rfl : x20 = (.bool false) := h20
      subst hF
      go_wp2_with (fail)
      exact ⟨rfl, rfl, (Below.refl _ _), rfl⟩
    · intro uF W hC' hU aF hF
      have hC : Below w1.heap.size w1 W := hC'
      clear hC'
      have h20 : (Det (.bool false)) (uF 3) W := hU.1
      have h26 : (Det (.bool false)) (uF 9) W := hU.2.1
      clear hU
      simp only [puts, Act.put, List.setIfInBounds_toArray, List.set_cons_zero, List.set_cons_succ] at hF
      generalize uF 3 = x20 at h20 hF
      generalize uF 9 = x26 at h26 hF
      obtain rfl : x20 = (.bool false) := h20
      obtain rfl : x26 = (.bool false) := h26
      subst hF
      go_wp2_with (fail)
      exact ⟨rfl, rfl, (Below.refl _ _), rfl⟩
  intro uF w2 hC' hU aF hF
  have hCw2 : Below w1.heap.size w1 w2 := hC'
  clear hC'
  have h27 : (Det (.bool false)) (uF 10) w2 := hU.2.2.2.2.2.2.2.2.2.2.1
  clear hU
  simp only [puts, Act.put, List.setIfInBounds_toArray, List.set_cons_zero, List.set_cons_succ] at hF
  generalize uF 0 = x17 at hF
  generalize uF 1 = x18 at hF
  generalize uF 2 = x19 at hF
  generalize uF 3 = x20 at hF
  generalize uF 4 = x21 at hF
  generalize uF 5 = x22 at hF
  generalize uF 6 = x23 at hF
  generalize uF 7 = x24 at hF
  generalize uF 8 = x25 at hF
  generalize uF 9 = x26 at hF
  generalize uF 10 = x27 at h27 hF
  obtain rfl : x27 = (.bool false) := h27
  subst hF
  have hv2 := hv1.trans (hCw2.mono hz1)
  have hz2 := hv2.size
  have HV2 := Lib.hid hv2
  clear hv2 HC0 HOL hv1 hb1 hst hbt
  go_wp2_with fail
  go_loopw [4, 30] (fun v4 v30 wr => ∃ i : Nat, i ≤ n ∧ v30 = .int .i64 (i : Int) ∧ v4 = .int .i64 (cnt (fs.take i) : Int) ∧ cnt (fs.take i) ≤ 8192 ∧ Below w.heap.size w wr) (fun _ v _ => n - (intOf v).toNat)
  case atStart => exact ⟨0, by omega, rfl, rfl, by simp [cnt], HV2.out⟩
  case round =>
    obtain ⟨i, hi, rfl, rfl, hct, hw⟩ := hrel
    have hzw := hw.size
    by_cases hlt : i < n
    · have hii : (i : Int) < (n : Int) := by omega
      have hi0 : (0 : Int) ≤ (i : Int) := by omega
      obtain ⟨f, hfi⟩ : ∃ f, fs[i]? = some f := ⟨_, List.getElem?_eq_getElem (by rw [HFL.out]; exact hlt)⟩
      have htk : fs.take (i + 1) = fs.take i ++ [f] := by rw [List.take_add_one, hfi]; rfl
      have hsn := cnt_snoc (fs.take i) f
      rw [← htk] at hsn
      obtain ⟨b, off', rfl, hbB, hcell, hds⟩ := (HF.out.below hw).get hfi
      obtain ⟨fk, fn, fx, fA, fm, fc, fds⟩ := f
      simp only [FrV.cells] at hcell hds hsn
      obtain ⟨S, hS⟩ : ∃ S, S = cnt (fs.take i) := ⟨_, rfl⟩
      rw [← hS] at hsn hct ⊢
      have HC := Lib.hid hcell
      have HSN := Lib.hid hsn
      have HW := Lib.hid hw
      have hfm : fm ≤ 140737488351232 := Nat.le_trans hds.le (HFC.out _ (List.mem_of_getElem? hfi))
      have bn := Blk.new wr 24 #[.int .i64 0, .int .i64 0, .int .i64 0, .slice none 0 0]
      clear hcell hsn htk hfi hw hds hS
      by_cases hbig : 8192 < S + (1 + fm)
      · have hbi : (8192 : Int) < (S : Int) + (1 + (fm : Int)) := by omega
        go_wp2_with (first
          | ((with_reducible show wpList _ _ _ (Oper.mk (some 33) (Op.load 24 _) _ _ _ _ :: _) _ _); refine wpList_load_agg rfl 24 (.tmp 32) rfl b (off' + i * 4) rfl #[.int .i64 fk, .int .i64 fn, .int .i64 fx, .slice fA fm fc] aggFr rfl (fun j v hv => HC.out j v (by simpa using hv)) ?_)
          | ((with_reducible show wpList _ _ _ (Oper.mk (some 6) (Op.alloc 24) _ _ _ _ :: _) _ _); refine wpList_alloc_agg rfl 24 rfl #[.int .i64 0, .int .i64 0, .int .i64 0, .slice none 0 0] zeroFr ?_)
          | ((with_reducible show wpList _ _ _ (Oper.mk none (Op.store 24 (.tmp 6) _) _ _ _ _ :: _) _ _); refine wpList_store_whole rfl 24 (.tmp 6) (.tmp 33) rfl wr.heap.size rfl [.int .i64 fk, .int .i64 fn, .int .i64 fx, .slice fA fm fc] rfl aggFr rfl _ _ bn rfl (by simp [Value.oneCell']) ?_; intro v1 b1 g1 s1; have hw1 : Below w.heap.size w v1 := HW.out.trans ((((below_alloc _ _).grown g1 (by simp) (fun k hk => by cases hk; exact Nat.le_refl _)) : Below wr.heap.size wr v1).mono hzw); have k3 : v1.cell? ⟨wr.heap.size, 3, none⟩ = some (.slice fA fm fc) := (by rw [b1.cell]; rfl); clear g1 s1))
        go_ret
        exact ⟨rfl, hw1⟩
      · have hbi : (S : Int) + (1 + (fm : Int)) ≤ (8192 : Int) := by omega
        go_wp2_with (first
          | ((with_reducible show wpList _ _ _ (Oper.mk (some 33) (Op.load 24 _) _ _ _ _ :: _) _ _); refine wpList_load_agg rfl 24 (.tmp 32) rfl b (off' + i * 4) rfl #[.int .i64 fk, .int .i64 fn, .int .i64 fx, .slice fA fm fc] aggFr rfl (fun j v hv => HC.out j v (by simpa using hv)) ?_)
          | ((with_reducible show wpList _ _ _ (Oper.mk (some 6) (Op.alloc 24) _ _ _ _ :: _) _ _); refine wpList_alloc_agg rfl 24 rfl #[.int .i64 0, .int .i64 0, .int .i64 0, .slice none 0 0] zeroFr ?_)
          | ((with_reducible show wpList _ _ _ (Oper.mk none (Op.store 24 (.tmp 6) _) _ _ _ _ :: _) _ _); refine wpList_store_whole rfl 24 (.tmp 6) (.tmp 33) rfl wr.heap.size rfl [.int .i64 fk, .int .i64 fn, .int .i64 fx, .slice fA fm fc] rfl aggFr rfl _ _ bn rfl (by simp [Value.oneCell']) ?_; intro v1 b1 g1 s1; have hw1 : Below w.heap.size w v1 := HW.out.trans ((((below_alloc _ _).grown g1 (by simp) (fun k hk => by cases hk; exact Nat.le_refl _)) : Below wr.heap.size wr v1).mono hzw); have k3 : v1.cell? ⟨wr.heap.size, 3, none⟩ = some (.slice fA fm fc) := (by rw [b1.cell]; rfl); clear g1 s1))
        have hsn := HSN.out
        exact ⟨⟨i + 1, by omega, by go_num, by rw [hsn]; go_num, by rw [hsn]; omega, hw1⟩, by simp [intOf]; omega⟩
    · obtain rfl : i = n := by omega
      have hii : ¬ (i : Int) < (i : Int) := by omega
      have ht : fs.take i = fs := List.take_of_length_le (by rw [HFL.out]; exact Nat.le_refl _)
      have hn8 : i ≤ 8192 := by have := len_cnt fs; rw [ht] at hct; have := HFL.out; omega
      rw [ht]
      have HW := Lib.hid hw
      obtain ⟨S, hS⟩ : ∃ S : Int, S = (cnt fs : Int) := ⟨_, rfl⟩
      rw [← hS]
      clear ht hct hS hw
      go_wp2_with (go_at_call 21; refine (bytes_c (HF.out.below HW.out) hzw (by omega)).mono ?_; rintro e w3 ⟨A7, c7, ls, rfl, hr3, ho3, hf3, hb3⟩; have hw3 := HW.out.trans (hb3.mono hzw); have hz3 := hw3.size; have hlk : ls.length = (encs fs).length := ho3.1; obtain ⟨K, hK⟩ : ∃ K, K = ls.length := ⟨_, rfl⟩; rw [← hK] at hr3 hlk ⊢; have hr3c := hr3.2.1; have hr3m : c7 ≤ 9223372036854775807 := hr3.2.2.1; have hKn : K ≤ i := (by have := len_encs fs; rw [HFL.out] at this; omega); have HR3 := Lib.hid (Row.base_le hr3 hzw); have HO3 := Lib.hid (show Owns w3 w.heap.size ls (encs fs) from ⟨ho3.1, fun i l r h1 h2 => Row.base_le (ho3.2 i l r h1 h2) hzw⟩); have HF3 := Lib.hid hf3; have HLK := Lib.hid hlk; have HW3 := Lib.hid hw3; have HKK := Lib.hid hK; clear hr3 ho3 hf3 hlk hw3 hK)
      go_loopw [8, 47] (fun v8 v47 wq => ∃ j : Nat, j ≤ i ∧ v47 = .int .i64 (j : Int) ∧ v8 = .int .i64 ((encs (fs.take j)).length : Int) ∧ Below w3.heap.size w3 wq) (fun _ v _ => i - (intOf v).toNat)
      case atStart => exact ⟨0, by omega, rfl, rfl, Below.refl _ _⟩
      case round =>
        obtain ⟨j, hj, rfl, rfl, hq⟩ := hrel
        obtain ⟨wq, hwq⟩ : ∃ x, x = wr := ⟨_, rfl⟩
        rw [← hwq] at hq ⊢
        clear hwq
        have hzq := hq.size
        by_cases hjl : j < i
        · have hii : (j : Int) < (i : Int) := by omega
          have hi0 : (0 : Int) ≤ (j : Int) := by omega
          obtain ⟨f, hfi⟩ : ∃ f, fs[j]? = some f := ⟨_, List.getElem?_eq_getElem (by rw [HFL.out]; exact hjl)⟩
          have htk : fs.take (j + 1) = fs.take j ++ [f] := by rw [List.take_add_one, hfi]; rfl
          have hsn := encs_snoc (fs.take j) f
          rw [← htk] at hsn
          have hat := fun b => encs_at (b := b) hfi
          obtain ⟨b, off', rfl, hbB, hcell, hds⟩ := (HF.out.below (HW3.out.trans (hq.mono hz3))).get hfi
          obtain ⟨fk, fn, fx, fA, fm, fc, fds⟩ := f
          simp only [FrV.cells] at hcell hds
          obtain ⟨k, hk⟩ : ∃ k, k = (encs (fs.take j)).length := ⟨_, rfl⟩
          rw [← hk] at hat ⊢
          have HC := Lib.hid hcell
          have HSN := Lib.hid hsn
          have HQ := Lib.hid hq
          have HDS := Lib.hid hds
          have HK := Lib.hid hk
          have HAT := Lib.hid hat
          have hfm := hds.mx
          have bn := Blk.new wq 24 #[.int .i64 0, .int .i64 0, .int .i64 0, .slice none 0 0]
          clear hcell hsn htk hfi hq hds hk hat
          by_cases hok : okF fk fn fx fm
          · have he : enc1 ⟨fk, fn, fx, fA, fm, fc, fds⟩ = some (frB fk fn fx fds) := if_pos hok
            have hkb := HAT.out _ he
            have hkK : k < K := by have := (List.getElem?_eq_some_iff.1 hkb).1; rw [HLK.out]; exact this
            obtain ⟨l, hl⟩ : ∃ l, ls[k]? = some l := ⟨_, List.getElem?_eq_getElem (by rw [← HKK.out]; exact hkK)⟩
            have hol := HO3.out.2 k l _ hl hkb
            have hln : l.n = 8 + fm := by have := hol.len; rw [len_frB, HDS.out.len] at this; exact this.symm
            obtain ⟨b7, o7, rfl, hb7, hc7⟩ := (HR3.out.below HQ.out).sl.at_ (by omega)
            have hck := hc7 k l.val (by rw [List.getElem?_map, hl]; rfl)
            rw [Lst.val, hln] at hck
            rw [hln] at hol
            obtain ⟨lA, hlA⟩ : ∃ x, x = l.A := ⟨_, rfl⟩
            obtain ⟨lc, hlc⟩ : ∃ x, x = l.c := ⟨_, rfl⟩
            rw [← hlA, ← hlc] at hol hck
            have HE := Lib.hid he
            have HOL := Lib.hid hol
            have HCK := Lib.hid hck
            have HOK := Lib.hid hok
            have hki : (k : Int) < (K : Int) := by omega
            have hk0 : (0 : Int) ≤ (k : Int) := by omega
            clear he hkb hl hol hln hc7 hck hlA hlc hok
            go_wp2_with (first
          | ((with_reducible show wpList _ _ _ (Oper.mk (some 50) (Op.load 24 _) _ _ _ _ :: _) _ _); refine wpList_load_agg rfl 24 (.tmp 49) rfl b (off' + j * 4) rfl #[.int .i64 fk, .int .i64 fn, .int .i64 fx, .slice fA fm fc] aggFr rfl (fun j v hv => HC.out j v (by simpa using hv)) ?_)
          | ((with_reducible show wpList _ _ _ (Oper.mk (some 10) (Op.alloc 24) _ _ _ _ :: _) _ _); refine wpList_alloc_agg rfl 24 rfl #[.int .i64 0, .int .i64 0, .int .i64 0, .slice none 0 0] zeroFr ?_)
          | ((with_reducible show wpList _ _ _ (Oper.mk none (Op.store 24 (.tmp 10) _) _ _ _ _ :: _) _ _); refine wpList_store_whole rfl 24 (.tmp 10) (.tmp 50) rfl wq.heap.size rfl [.int .i64 fk, .int .i64 fn, .int .i64 fx, .slice fA fm fc] rfl aggFr rfl _ _ bn rfl (by simp [Value.oneCell']) ?_; intro v1 b1 g1 s1; have h01 : Below wq.heap.size wq v1 := (below_alloc _ _).grown g1 (by simp) (fun k hk => by cases hk; exact Nat.le_refl _); have hq1 := HQ.out.trans (h01.mono hzq); have hzq1 := hq1.size; have hww1 := HW3.out.trans (hq1.mono hz3); clear g1 s1)
          | ((with_reducible show wpList _ _ _ (Oper.mk (some 52) (Op.load 24 _) _ _ _ _ :: _) _ _); refine wpList_load_whole rfl 24 (.tmp 10) rfl wq.heap.size rfl #[.int .i64 fk, .int .i64 fn, .int .i64 fx, .slice fA fm fc] aggFr rfl _ b1 ?_)
          | (go_at_call 16; refine (refencode_ok fk fn fx (HDS.out.below (hq1.mono hz3 |> fun h => h01.mono (Nat.le_trans hz3 hzq))) hww1.size HOK.out).mono ?_; rintro e w6 ⟨A6, c6, rfl, ho6, hb6⟩; have hq6 := hq1.trans (hb6.mono hzq1); have hc6 : w6.cell? ⟨b7, o7 + k, none⟩ = some (.slice lA (8 + fm) lc) := ((h01.trans (hb6.mono h01.size)).cell (p := ⟨b7, o7 + k, none⟩) hb7).trans HCK.out; have hol6 := HOL.out.below hq6)
          | (go_at_call 17; refine (same_c hol6.sl ho6.sl true (by simp)).mono ?_; rintro e w' ⟨rfl, rfl⟩))
            have hsn := HSN.out
            rw [HE.out] at hsn
            have hl9 : (encs (fs.take (j + 1))).length = k + 1 := by rw [hsn, List.length_append, ← HK.out]; rfl
            exact ⟨⟨j + 1, by omega, by go_num, by rw [hl9]; go_num, hq6⟩, by simp [intOf]; omega⟩
          · have he : enc1 ⟨fk, fn, fx, fA, fm, fc, fds⟩ = none := if_neg hok
            have HE := Lib.hid he
            have HOK := Lib.hid hok
            clear he hok
            go_wp2_with (first
          | ((with_reducible show wpList _ _ _ (Oper.mk (some 50) (Op.load 24 _) _ _ _ _ :: _) _ _); refine wpList_load_agg rfl 24 (.tmp 49) rfl b (off' + j * 4) rfl #[.int .i64 fk, .int .i64 fn, .int .i64 fx, .slice fA fm fc] aggFr rfl (fun j v hv => HC.out j v (by simpa using hv)) ?_)
          | ((with_reducible show wpList _ _ _ (Oper.mk (some 10) (Op.alloc 24) _ _ _ _ :: _) _ _); refine wpList_alloc_agg rfl 24 rfl #[.int .i64 0, .int .i64 0, .int .i64 0, .slice none 0 0] zeroFr ?_)
          | ((with_reducible show wpList _ _ _ (Oper.mk none (Op.store 24 (.tmp 10) _) _ _ _ _ :: _) _ _); refine wpList_store_whole rfl 24 (.tmp 10) (.tmp 50) rfl wq.heap.size rfl [.int .i64 fk, .int .i64 fn, .int .i64 fx, .slice fA fm fc] rfl aggFr rfl _ _ bn rfl (by simp [Value.oneCell']) ?_; intro v1 b1 g1 s1; have h01 : Below wq.heap.size wq v1 := (below_alloc _ _).grown g1 (by simp) (fun k hk => by cases hk; exact Nat.le_refl _); have hq1 := HQ.out.trans (h01.mono hzq); have hzq1 := hq1.size; have hww1 := HW3.out.trans (hq1.mono hz3); clear g1 s1)
          | ((with_reducible show wpList _ _ _ (Oper.mk (some 52) (Op.load 24 _) _ _ _ _ :: _) _ _); refine wpList_load_whole rfl 24 (.tmp 10) rfl wq.heap.size rfl #[.int .i64 fk, .int .i64 fn, .int .i64 fx, .slice fA fm fc] aggFr rfl _ b1 ?_)
          | (go_at_call 16; refine (refencode_bad fk fn fx hfm HOK.out).mono ?_; rintro e w6 ⟨rfl, hb6⟩; have hq6 := hq1.trans (hb6.mono hzq1)))
            have hsn := HSN.out
            rw [HE.out] at hsn
            simp only [List.append_nil] at hsn
            have hl9 : (encs (fs.take (j + 1))).length = k := by rw [hsn, ← HK.out]
            exact ⟨⟨j + 1, by omega, by go_num, by rw [hl9], hq6⟩, by simp [intOf]; omega⟩
        · obtain rfl : j = i := by omega
          have hij : ¬ (j : Int) < (j : Int) := by omega
          have ht : fs.take j = fs := List.take_of_length_le (by rw [HFL.out]; exact Nat.le_refl _)
          rw [ht, ← HLK.out]
          have hwq := HW3.out.trans (hq.mono hz3)
          have hr := HR3.out.below hq
          have ho := HO3.out.below hq
          have hnn : ∀ l ∈ ls, l.n ≤ 140737488355000 := fun l hl => by
            obtain ⟨x, hx⟩ := List.getElem?_of_mem hl
            obtain ⟨r, hr1, hr2⟩ := HO3.out.of hx
            have h1 := mem_encs HF.out.2.2 (List.mem_of_getElem? hr1)
            have h2 := hr2.len
            omega
          have HNN := Lib.hid hnn
          have HR := Lib.hid hr
          have HO := Lib.hid ho
          have HWQ := Lib.hid hwq
          have hkk : ((K : Int) == (K : Int)) = true := by simp
          clear ht hnn hr ho hwq
          go_wp2_with (go_at_call 20; refine (apart_c HR.out HWQ.out.size (fun m l hm => by obtain ⟨r, _, h⟩ := HO.out.of hm; exact ⟨r, h, fun h => absurd h (by omega)⟩) HNN.out HF3.out (by omega)).mono ?_; rintro e w9 ⟨rfl, hb9⟩)
          go_ret
          exact ⟨rfl, HWQ.out.trans hb9⟩
end Go.Proofs.Ytjjpifppdjpcnaa.pduBytes

