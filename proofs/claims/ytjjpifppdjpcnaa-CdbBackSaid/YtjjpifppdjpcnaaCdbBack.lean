/-
  CdbBack: a command comes back from its bytes, and no other bytes are decoded to it (printed by wip/gen_cback.py).
-/
import Derived.Test.YtjjpifppdjpcnaaCdbDecY
import Derived.Test.YtjjpifppdjpcnaaCdbSame
import Derived.Test.YtjjpifppdjpcnaaCdbLaw
import Derived.Test.YtjjpifppdjpcnaaErr
namespace Go.Proofs.Ytjjpifppdjpcnaa.cdbBack
open Go.RowKit
set_option linter.unusedVariables false
set_option linter.unusedSimpArgs false
set_option maxRecDepth 100000

theorem len_cmB {kind unit block many op key new ty : Int} {st : Bool} {ds : List UInt8} : (cmB kind unit block many op key new ty st ds).length ≤ 25 + ds.length := by
  rw [cmB, List.length_append, len_fbytes, cmF]
  split
  · rw [show fsize (fl4 kind unit block many ++ fl5 op key new ty st) = 25 from rfl]; omega
  · rw [show fsize (fl4 kind unit block many) = 6 from rfl]; omega
theorem who_zero {kind unit block many : Int} {m : Nat} {op who key new ty : Int} {st : Bool} (h : goodC kind unit block many m op who key new ty st) : who = 0 := by
  by_cases h6 : kind = 6
  · exact (h.2.2.2.2.2.2.2.2.2.2.2 h6).1
  · exact (h.2.2.2.2.2.2.2.2.2.2.1 h6).2.1
theorem rOp_wf (bs : List UInt8) : (Lit.int .i64 (rOp bs)).wf = true := by unfold rOp; split; exact nm_wf _ _ _; rfl
theorem rKey_wf (bs : List UInt8) : (Lit.int .i64 (rKey bs)).wf = true := by unfold rKey; split; exact nm_wf _ _ _; rfl
theorem rNew_wf (bs : List UInt8) : (Lit.int .i64 (rNew bs)).wf = true := by unfold rNew; split; exact nm_wf _ _ _; rfl
theorem rTy_wf (bs : List UInt8) : (Lit.int .i64 (rTy bs)).wf = true := by unfold rTy; split; exact nm_wf _ _ _; rfl
/-- Two commands are the same just if their bytes are. -/
theorem same_iff {bs : List UInt8} {kind unit block many op key new ty : Int} {st : Bool} {ds : List UInt8} (hd : cdecOk bs) (hg : goodC kind unit block many ds.length op 0 key new ty st)
    (hwf : (Lit.int .i64 kind).wf = true ∧ (Lit.int .i64 unit).wf = true ∧ (Lit.int .i64 block).wf = true ∧ (Lit.int .i64 many).wf = true) (hwf2 : (Lit.int .i64 op).wf = true ∧ (Lit.int .i64 key).wf = true ∧ (Lit.int .i64 new).wf = true ∧ (Lit.int .i64 ty).wf = true) :
    (nm bs 0 1 = kind ∧ nm bs 1 1 = unit ∧ nm bs 2 2 = block ∧ nm bs 4 2 = many ∧ (rOp bs = op ∧ (0 : Int) = 0 ∧ rKey bs = key ∧ rNew bs = new ∧ rTy bs = ty ∧ rSt bs = st) ∧ datc bs = ds) ↔ cmB kind unit block many op key new ty st ds = bs := by
  constructor
  · rintro ⟨rfl, rfl, rfl, rfl, ⟨rfl, _, rfl, rfl, rfl, rfl⟩, rfl⟩
    exact cm_dec hd
  · intro e
    obtain ⟨_, f0, f1, f2, f4, fo, fk, fn, ft, fs, fd⟩ := cm_back hg hwf hwf2 e.symm
    exact ⟨f0, f1, f2, f4, ⟨fo, rfl, fk, fn, ft, fs⟩, fd⟩
theorem cdec_back {w : World} {B : Nat} {A : Option Addr} {n c : Nat} {kind unit block many op key new ty : Int} {st : Bool} {ds : List UInt8} (hb : SlB w B A n c (cmB kind unit block many op key new ty st ds)) (hB : B ≤ w.heap.size) (hn : n ≤ 140737488280000) (hg : goodC kind unit block many ds.length op 0 key new ty st)
    (hwf : (Lit.int .i64 kind).wf = true ∧ (Lit.int .i64 unit).wf = true ∧ (Lit.int .i64 block).wf = true ∧ (Lit.int .i64 many).wf = true) (hwf2 : (Lit.int .i64 op).wf = true ∧ (Lit.int .i64 key).wf = true ∧ (Lit.int .i64 new).wf = true ∧ (Lit.int .i64 ty).wf = true) :
    Calls Try.prog 35 #[.slice A n c] w fun e w' => ∃ A' m' c', e = .returned (.tuple #[.agg #[.int .i64 kind, .int .i64 unit, .int .i64 block, .int .i64 many, .slice A' m' c', .int .i64 op, .int .i64 0, .int .i64 key, .int .i64 new, .int .i64 ty, .bool st], .nilIface]) ∧ OwB w' w.heap.size A' m' c' ds ∧ Below w.heap.size w w' := by
  obtain ⟨hok, f0, f1, f2, f4, fo, fk, fn, ft, fs, fd⟩ := cm_back hg hwf hwf2 rfl
  refine (cdec_yes hb hB hn hok).mono ?_
  rintro e w' ⟨A', m', c', rfl, ho, hw⟩
  rw [f0, f1, f2, f4, fo, fk, fn, ft, fs]
  rw [fd] at ho
  exact ⟨A', m', c', rfl, ho, hw⟩
theorem csame_eq {w : World} {B B' : Nat} {A A' : Option Addr} {m c m' c' : Nat} {ds : List UInt8} (kind unit block many op who key new ty : Int) (st : Bool) (h : SlB w B A m c ds) (h' : SlB w B' A' m' c' ds) (hB : B ≤ w.heap.size) (hB' : B' ≤ w.heap.size) :
    Calls Try.prog 38 #[.agg #[.int .i64 kind, .int .i64 unit, .int .i64 block, .int .i64 many, .slice A m c, .int .i64 op, .int .i64 who, .int .i64 key, .int .i64 new, .int .i64 ty, .bool st], .agg #[.int .i64 kind, .int .i64 unit, .int .i64 block, .int .i64 many, .slice A' m' c', .int .i64 op, .int .i64 who, .int .i64 key, .int .i64 new, .int .i64 ty, .bool st]] w fun e w' => e = .returned (.bool true) ∧ Below w.heap.size w w' := by
  refine (csame_c kind unit block many op who key new ty st kind unit block many op who key new ty st h h' hB hB').mono ?_
  rintro e w' ⟨rfl, hw⟩
  exact ⟨by simp, hw⟩
theorem csame_bc {w : World} {B B' : Nat} {A A' : Option Addr} {m c m' c' : Nat} {bs ds : List UInt8} (kind unit block many op key new ty : Int) (st : Bool) (h : SlB w B A m c (datc bs)) (h' : SlB w B' A' m' c' ds) (hB : B ≤ w.heap.size) (hB' : B' ≤ w.heap.size) (hd : cdecOk bs) (hg : goodC kind unit block many ds.length op 0 key new ty st)
    (hwf : (Lit.int .i64 kind).wf = true ∧ (Lit.int .i64 unit).wf = true ∧ (Lit.int .i64 block).wf = true ∧ (Lit.int .i64 many).wf = true) (hwf2 : (Lit.int .i64 op).wf = true ∧ (Lit.int .i64 key).wf = true ∧ (Lit.int .i64 new).wf = true ∧ (Lit.int .i64 ty).wf = true) (r : Bool) (hr : decide (cmB kind unit block many op key new ty st ds = bs) = r) :
    Calls Try.prog 38 #[.agg #[.int .i64 (nm bs 0 1), .int .i64 (nm bs 1 1), .int .i64 (nm bs 2 2), .int .i64 (nm bs 4 2), .slice A m c, .int .i64 (rOp bs), .int .i64 0, .int .i64 (rKey bs), .int .i64 (rNew bs), .int .i64 (rTy bs), .bool (rSt bs)], .agg #[.int .i64 kind, .int .i64 unit, .int .i64 block, .int .i64 many, .slice A' m' c', .int .i64 op, .int .i64 0, .int .i64 key, .int .i64 new, .int .i64 ty, .bool st]] w fun e w' => e = .returned (.bool r) ∧ Below w.heap.size w w' := by
  refine (csame_c (nm bs 0 1) (nm bs 1 1) (nm bs 2 2) (nm bs 4 2) (rOp bs) 0 (rKey bs) (rNew bs) (rTy bs) (rSt bs) kind unit block many op 0 key new ty st h h' hB hB').mono ?_
  rintro e w' ⟨rfl, hw⟩
  refine ⟨?_, hw⟩
  rw [← hr]
  exact congrArg (fun x => Ending.returned (.bool x)) (decide_eq_decide.2 (same_iff hd hg hwf hwf2))

set_option maxHeartbeats 4000000 in
theorem walk_big0 (kind unit block many op who key new ty : Int) (st : Bool) (A : Option Addr) (m c : Nat) (ds : List UInt8) (A1 : Option Addr) (n1 c1 : Nat) (bs : List UInt8) (w : World) (w0 : SlB w w.heap.size A m c ds) (w1 : SlB w w.heap.size A1 n1 c1 bs)
    (HX : Hid ((Lit.int .i64 kind).wf = true ∧ (Lit.int .i64 unit).wf = true ∧ (Lit.int .i64 block).wf = true ∧ (Lit.int .i64 many).wf = true)) (HY : Hid ((Lit.int .i64 op).wf = true ∧ (Lit.int .i64 key).wf = true ∧ (Lit.int .i64 new).wf = true ∧ (Lit.int .i64 ty).wf = true)) (hbi : (16384 : Int) < (m : Int)) :
    Calls Try.prog 11 #[.agg #[.int .i64 kind, .int .i64 unit, .int .i64 block, .int .i64 many, .slice A m c, .int .i64 op, .int .i64 who, .int .i64 key, .int .i64 new, .int .i64 ty, .bool st], .slice A1 n1 c1] w fun e w' => e = .returned (.bool true) ∧ Below w.heap.size w w' := by
  have hmx := w0.mx
  have hmx1 := w1.mx
  have hmc := w0.le
  have hmc1 := w1.le
  have LENB := Lib.hid (show (cmB kind unit block many op key new ty st ds).length ≤ 25 + m by have := len_cmB (kind := kind) (unit := unit) (block := block) (many := many) (op := op) (key := key) (new := new) (ty := ty) (st := st) (ds := ds); have := w0.len; omega)
  have HDL := Lib.hid (show (datc bs).length ≤ n1 by have := w1.len; rw [datc, List.length_drop]; omega)
  obtain ⟨g2, hg2⟩ : ∃ g, g = w.heap.size := ⟨_, rfl⟩
  obtain ⟨v, hv⟩ : ∃ v, v = w.alloc (.cells #[.int .i64 kind, .int .i64 unit, .int .i64 block, .int .i64 many, .slice A m c, .int .i64 op, .int .i64 who, .int .i64 key, .int .i64 new, .int .i64 ty, .bool st] 56) := ⟨_, rfl⟩
  have b2 : Blk v g2 56 #[.int .i64 kind, .int .i64 unit, .int .i64 block, .int .i64 many, .slice A m c, .int .i64 op, .int .i64 who, .int .i64 key, .int .i64 new, .int .i64 ty, .bool st] := by rw [hv, hg2]; exact Blk.new _ _ _
  have hbv : Below w.heap.size w v := by rw [hv]; exact below_alloc _ _
  have hz := hbv.size
  have hgv := b2.lt
  have HD := Lib.hid (w0.below hbv)
  have HE := Lib.hid (w1.below hbv)
  have HV := Lib.hid hv
  have HG := Lib.hid hg2
  have HB2 := Lib.hid b2
  clear hv hg2 w0 w1 b2
  go_enter Try.func11, Try.ntmps11
  go_wp2_with (first
    | (go_at_call 28; rw [← HV.out, ← HG.out]; refine (example_c v).mono ?_; rintro e wa ⟨rfl, hba⟩; have hza := hba.size)
    | (go_at_call 27; (fail_if_success have hx := E0); refine (cenc_ex wa).mono ?_; rintro e wb ⟨Ab, cb, rfl, hob, hbb⟩; have hvb := hba.trans (hbb.mono hza); have hzb := hvb.size; have b2b := HB2.out.below hvb hgv; clear hob; have E0 := True.intro)
    | ((with_reducible show wpList _ _ _ (Oper.mk (some 27) (Op.load 56 _) _ _ _ _ :: _) _ _); refine wpList_load_whole rfl 56 (.tmp 2) rfl (g2) rfl #[.int .i64 kind, .int .i64 unit, .int .i64 block, .int .i64 many, .slice A m c, .int .i64 op, .int .i64 who, .int .i64 key, .int .i64 new, .int .i64 ty, .bool st] aggCm rfl _ b2b ?_)
    | (go_at_call 29; refine (large15_c kind unit block many op who key new ty st hmx true (decide_eq_true hbi)).mono ?_; rintro e w2 ⟨rfl, hb2⟩; have hv2 := hvb.trans (hb2.mono hzb); have hz2 := hv2.size; have b22 := HB2.out.below hv2 hgv)
    | ((with_reducible show wpList _ _ _ (Oper.mk (some 35) (Op.load 56 _) _ _ _ _ :: _) _ _); refine wpList_load_whole rfl 56 (.tmp 2) rfl (g2) rfl #[.int .i64 kind, .int .i64 unit, .int .i64 block, .int .i64 many, .slice A m c, .int .i64 op, .int .i64 who, .int .i64 key, .int .i64 new, .int .i64 ty, .bool st] aggCm rfl _ b22 ?_))
  go_ret
  exact ⟨rfl, hbv.trans (hv2.mono hz)⟩

set_option maxHeartbeats 4000000 in
theorem walk_big1 (kind unit block many op who key new ty : Int) (st : Bool) (A : Option Addr) (m c : Nat) (ds : List UInt8) (A1 : Option Addr) (n1 c1 : Nat) (bs : List UInt8) (w : World) (w0 : SlB w w.heap.size A m c ds) (w1 : SlB w w.heap.size A1 n1 c1 bs)
    (HX : Hid ((Lit.int .i64 kind).wf = true ∧ (Lit.int .i64 unit).wf = true ∧ (Lit.int .i64 block).wf = true ∧ (Lit.int .i64 many).wf = true)) (HY : Hid ((Lit.int .i64 op).wf = true ∧ (Lit.int .i64 key).wf = true ∧ (Lit.int .i64 new).wf = true ∧ (Lit.int .i64 ty).wf = true)) (hbi : ¬ (16384 : Int) < (m : Int)) (hbj : (16384 : Int) < (n1 : Int)) :
    Calls Try.prog 11 #[.agg #[.int .i64 kind, .int .i64 unit, .int .i64 block, .int .i64 many, .slice A m c, .int .i64 op, .int .i64 who, .int .i64 key, .int .i64 new, .int .i64 ty, .bool st], .slice A1 n1 c1] w fun e w' => e = .returned (.bool true) ∧ Below w.heap.size w w' := by
  have hmx := w0.mx
  have hmx1 := w1.mx
  have hmc := w0.le
  have hmc1 := w1.le
  have LENB := Lib.hid (show (cmB kind unit block many op key new ty st ds).length ≤ 25 + m by have := len_cmB (kind := kind) (unit := unit) (block := block) (many := many) (op := op) (key := key) (new := new) (ty := ty) (st := st) (ds := ds); have := w0.len; omega)
  have HDL := Lib.hid (show (datc bs).length ≤ n1 by have := w1.len; rw [datc, List.length_drop]; omega)
  obtain ⟨g2, hg2⟩ : ∃ g, g = w.heap.size := ⟨_, rfl⟩
  obtain ⟨v, hv⟩ : ∃ v, v = w.alloc (.cells #[.int .i64 kind, .int .i64 unit, .int .i64 block, .int .i64 many, .slice A m c, .int .i64 op, .int .i64 who, .int .i64 key, .int .i64 new, .int .i64 ty, .bool st] 56) := ⟨_, rfl⟩
  have b2 : Blk v g2 56 #[.int .i64 kind, .int .i64 unit, .int .i64 block, .int .i64 many, .slice A m c, .int .i64 op, .int .i64 who, .int .i64 key, .int .i64 new, .int .i64 ty, .bool st] := by rw [hv, hg2]; exact Blk.new _ _ _
  have hbv : Below w.heap.size w v := by rw [hv]; exact below_alloc _ _
  have hz := hbv.size
  have hgv := b2.lt
  have HD := Lib.hid (w0.below hbv)
  have HE := Lib.hid (w1.below hbv)
  have HV := Lib.hid hv
  have HG := Lib.hid hg2
  have HB2 := Lib.hid b2
  clear hv hg2 w0 w1 b2
  go_enter Try.func11, Try.ntmps11
  go_wp2_with (first
    | (go_at_call 28; rw [← HV.out, ← HG.out]; refine (example_c v).mono ?_; rintro e wa ⟨rfl, hba⟩; have hza := hba.size)
    | (go_at_call 27; (fail_if_success have hx := E0); refine (cenc_ex wa).mono ?_; rintro e wb ⟨Ab, cb, rfl, hob, hbb⟩; have hvb := hba.trans (hbb.mono hza); have hzb := hvb.size; have b2b := HB2.out.below hvb hgv; clear hob; have E0 := True.intro)
    | ((with_reducible show wpList _ _ _ (Oper.mk (some 27) (Op.load 56 _) _ _ _ _ :: _) _ _); refine wpList_load_whole rfl 56 (.tmp 2) rfl (g2) rfl #[.int .i64 kind, .int .i64 unit, .int .i64 block, .int .i64 many, .slice A m c, .int .i64 op, .int .i64 who, .int .i64 key, .int .i64 new, .int .i64 ty, .bool st] aggCm rfl _ b2b ?_)
    | (go_at_call 29; refine (large15_c kind unit block many op who key new ty st hmx false (decide_eq_false (by omega))).mono ?_; rintro e w2 ⟨rfl, hb2⟩; have hv2 := hvb.trans (hb2.mono hzb); have hz2 := hv2.size; have b22 := HB2.out.below hv2 hgv)
    | ((with_reducible show wpList _ _ _ (Oper.mk (some 35) (Op.load 56 _) _ _ _ _ :: _) _ _); refine wpList_load_whole rfl 56 (.tmp 2) rfl (g2) rfl #[.int .i64 kind, .int .i64 unit, .int .i64 block, .int .i64 many, .slice A m c, .int .i64 op, .int .i64 who, .int .i64 key, .int .i64 new, .int .i64 ty, .bool st] aggCm rfl _ b22 ?_))
  go_ret
  exact ⟨rfl, hbv.trans (hv2.mono hz)⟩

set_option maxHeartbeats 4000000 in
theorem walk_bad0 (kind unit block many op who key new ty : Int) (st : Bool) (A : Option Addr) (m c : Nat) (ds : List UInt8) (A1 : Option Addr) (n1 c1 : Nat) (bs : List UInt8) (w : World) (w0 : SlB w w.heap.size A m c ds) (w1 : SlB w w.heap.size A1 n1 c1 bs)
    (HX : Hid ((Lit.int .i64 kind).wf = true ∧ (Lit.int .i64 unit).wf = true ∧ (Lit.int .i64 block).wf = true ∧ (Lit.int .i64 many).wf = true)) (HY : Hid ((Lit.int .i64 op).wf = true ∧ (Lit.int .i64 key).wf = true ∧ (Lit.int .i64 new).wf = true ∧ (Lit.int .i64 ty).wf = true)) (hbi : ¬ (16384 : Int) < (m : Int)) (hbj : ¬ (16384 : Int) < (n1 : Int)) (HD1 : Hid (¬ cdecOk bs)) (HOK : Hid (¬ goodC kind unit block many m op who key new ty st)) :
    Calls Try.prog 11 #[.agg #[.int .i64 kind, .int .i64 unit, .int .i64 block, .int .i64 many, .slice A m c, .int .i64 op, .int .i64 who, .int .i64 key, .int .i64 new, .int .i64 ty, .bool st], .slice A1 n1 c1] w fun e w' => e = .returned (.bool true) ∧ Below w.heap.size w w' := by
  have hmx := w0.mx
  have hmx1 := w1.mx
  have hmc := w0.le
  have hmc1 := w1.le
  have LENB := Lib.hid (show (cmB kind unit block many op key new ty st ds).length ≤ 25 + m by have := len_cmB (kind := kind) (unit := unit) (block := block) (many := many) (op := op) (key := key) (new := new) (ty := ty) (st := st) (ds := ds); have := w0.len; omega)
  have HDL := Lib.hid (show (datc bs).length ≤ n1 by have := w1.len; rw [datc, List.length_drop]; omega)
  obtain ⟨g2, hg2⟩ : ∃ g, g = w.heap.size := ⟨_, rfl⟩
  obtain ⟨v, hv⟩ : ∃ v, v = w.alloc (.cells #[.int .i64 kind, .int .i64 unit, .int .i64 block, .int .i64 many, .slice A m c, .int .i64 op, .int .i64 who, .int .i64 key, .int .i64 new, .int .i64 ty, .bool st] 56) := ⟨_, rfl⟩
  have b2 : Blk v g2 56 #[.int .i64 kind, .int .i64 unit, .int .i64 block, .int .i64 many, .slice A m c, .int .i64 op, .int .i64 who, .int .i64 key, .int .i64 new, .int .i64 ty, .bool st] := by rw [hv, hg2]; exact Blk.new _ _ _
  have hbv : Below w.heap.size w v := by rw [hv]; exact below_alloc _ _
  have hz := hbv.size
  have hgv := b2.lt
  have HD := Lib.hid (w0.below hbv)
  have HE := Lib.hid (w1.below hbv)
  have HV := Lib.hid hv
  have HG := Lib.hid hg2
  have HB2 := Lib.hid b2
  clear hv hg2 w0 w1 b2
  go_enter Try.func11, Try.ntmps11
  go_wp2_with (first
    | (go_at_call 28; rw [← HV.out, ← HG.out]; refine (example_c v).mono ?_; rintro e wa ⟨rfl, hba⟩; have hza := hba.size)
    | (go_at_call 27; (fail_if_success have hx := E0); refine (cenc_ex wa).mono ?_; rintro e wb ⟨Ab, cb, rfl, hob, hbb⟩; have hvb := hba.trans (hbb.mono hza); have hzb := hvb.size; have b2b := HB2.out.below hvb hgv; clear hob; have E0 := True.intro)
    | ((with_reducible show wpList _ _ _ (Oper.mk (some 27) (Op.load 56 _) _ _ _ _ :: _) _ _); refine wpList_load_whole rfl 56 (.tmp 2) rfl (g2) rfl #[.int .i64 kind, .int .i64 unit, .int .i64 block, .int .i64 many, .slice A m c, .int .i64 op, .int .i64 who, .int .i64 key, .int .i64 new, .int .i64 ty, .bool st] aggCm rfl _ b2b ?_)
    | (go_at_call 29; refine (large15_c kind unit block many op who key new ty st hmx false (decide_eq_false (by omega))).mono ?_; rintro e w2 ⟨rfl, hb2⟩; have hv2 := hvb.trans (hb2.mono hzb); have hz2 := hv2.size; have b22 := HB2.out.below hv2 hgv)
    | ((with_reducible show wpList _ _ _ (Oper.mk (some 35) (Op.load 56 _) _ _ _ _ :: _) _ _); refine wpList_load_whole rfl 56 (.tmp 2) rfl (g2) rfl #[.int .i64 kind, .int .i64 unit, .int .i64 block, .int .i64 many, .slice A m c, .int .i64 op, .int .i64 who, .int .i64 key, .int .i64 new, .int .i64 ty, .bool st] aggCm rfl _ b22 ?_)
    | (go_at_call 27; have hprev := E0; clear hprev; (fail_if_success have hx := E1); refine (cenc_bad kind unit block many op who key new ty st (HD.out.below (hv2.mono hz)) (Nat.le_trans hz hz2) (by omega) HX.out HY.out HOK.out).mono ?_; rintro e w3 ⟨rfl, hb3⟩; have hv3 := hv2.trans (hb3.mono hz2); have hz3 := hv3.size; have E1 := True.intro)
    | (go_at_call 35; (fail_if_success have hx := D1); refine (cdec_no (HE.out.below (hv3.mono hz)) (Nat.le_trans hz hz3) (by omega) HD1.out).mono ?_; rintro e w4 ⟨rfl, hb4⟩; have hv4 := hv3.trans (hb4.mono hz3); have hz4 := hv4.size; have bn4 := Blk.new w4 56 #[.int .i64 0, .int .i64 0, .int .i64 0, .int .i64 0, .slice none 0 0, .int .i64 0, .int .i64 0, .int .i64 0, .int .i64 0, .int .i64 0, .bool false]; have D1 := True.intro)
    | ((with_reducible show wpList _ _ _ (Oper.mk (some 9) (Op.alloc 56) _ _ _ _ :: _) _ _); refine wpList_alloc_agg rfl 56 rfl #[.int .i64 0, .int .i64 0, .int .i64 0, .int .i64 0, .slice none 0 0, .int .i64 0, .int .i64 0, .int .i64 0, .int .i64 0, .int .i64 0, .bool false] zeroCm ?_)
    | ((with_reducible show wpList _ _ _ (Oper.mk none (Op.store 56 (.tmp 9) _) _ _ _ _ :: _) _ _); refine wpList_store_whole rfl 56 (.tmp 9) (.tmp 42) rfl (w4.heap.size) rfl [.int .i64 0, .int .i64 0, .int .i64 0, .int .i64 0, .slice none 0 0, .int .i64 0, .int .i64 0, .int .i64 0, .int .i64 0, .int .i64 0, .bool false] rfl aggCm rfl _ _ bn4 rfl (by simp [Value.oneCell']) ?_; intro v5 b5 g5 s5; have h45 : Below w4.heap.size w4 v5 := (below_alloc _ _).grown g5 (by simp) (fun k hk => by cases hk; exact Nat.le_refl _); have hv5 := hv4.trans (h45.mono hz4); have hz5 := hv5.size; clear g5 s5))
  go_ret
  exact ⟨rfl, hbv.trans (hv5.mono hz)⟩

set_option maxHeartbeats 4000000 in
theorem walk_ok0 (kind unit block many op key new ty : Int) (st : Bool) (A : Option Addr) (m c : Nat) (ds : List UInt8) (A1 : Option Addr) (n1 c1 : Nat) (bs : List UInt8) (w : World) (w0 : SlB w w.heap.size A m c ds) (w1 : SlB w w.heap.size A1 n1 c1 bs)
    (HX : Hid ((Lit.int .i64 kind).wf = true ∧ (Lit.int .i64 unit).wf = true ∧ (Lit.int .i64 block).wf = true ∧ (Lit.int .i64 many).wf = true)) (HY : Hid ((Lit.int .i64 op).wf = true ∧ (Lit.int .i64 key).wf = true ∧ (Lit.int .i64 new).wf = true ∧ (Lit.int .i64 ty).wf = true)) (hbi : ¬ (16384 : Int) < (m : Int)) (hbj : ¬ (16384 : Int) < (n1 : Int)) (HD1 : Hid (¬ cdecOk bs)) (HOK : Hid (goodC kind unit block many m op 0 key new ty st))  :
    Calls Try.prog 11 #[.agg #[.int .i64 kind, .int .i64 unit, .int .i64 block, .int .i64 many, .slice A m c, .int .i64 op, .int .i64 0, .int .i64 key, .int .i64 new, .int .i64 ty, .bool st], .slice A1 n1 c1] w fun e w' => e = .returned (.bool true) ∧ Below w.heap.size w w' := by
  have hmx := w0.mx
  have hmx1 := w1.mx
  have hmc := w0.le
  have hmc1 := w1.le
  have LENB := Lib.hid (show (cmB kind unit block many op key new ty st ds).length ≤ 25 + m by have := len_cmB (kind := kind) (unit := unit) (block := block) (many := many) (op := op) (key := key) (new := new) (ty := ty) (st := st) (ds := ds); have := w0.len; omega)
  have HDL := Lib.hid (show (datc bs).length ≤ n1 by have := w1.len; rw [datc, List.length_drop]; omega)
  obtain ⟨g2, hg2⟩ : ∃ g, g = w.heap.size := ⟨_, rfl⟩
  obtain ⟨v, hv⟩ : ∃ v, v = w.alloc (.cells #[.int .i64 kind, .int .i64 unit, .int .i64 block, .int .i64 many, .slice A m c, .int .i64 op, .int .i64 0, .int .i64 key, .int .i64 new, .int .i64 ty, .bool st] 56) := ⟨_, rfl⟩
  have b2 : Blk v g2 56 #[.int .i64 kind, .int .i64 unit, .int .i64 block, .int .i64 many, .slice A m c, .int .i64 op, .int .i64 0, .int .i64 key, .int .i64 new, .int .i64 ty, .bool st] := by rw [hv, hg2]; exact Blk.new _ _ _
  have hbv : Below w.heap.size w v := by rw [hv]; exact below_alloc _ _
  have hz := hbv.size
  have hgv := b2.lt
  have HD := Lib.hid (w0.below hbv)
  have HE := Lib.hid (w1.below hbv)
  have HV := Lib.hid hv
  have HG := Lib.hid hg2
  have HB2 := Lib.hid b2
  clear hv hg2 w0 w1 b2
  have HGL : Hid (goodC kind unit block many ds.length op 0 key new ty st) := Lib.hid (by rw [HD.out.len]; exact HOK.out)
  go_enter Try.func11, Try.ntmps11
  go_wp2_with (first
    | (go_at_call 28; rw [← HV.out, ← HG.out]; refine (example_c v).mono ?_; rintro e wa ⟨rfl, hba⟩; have hza := hba.size)
    | (go_at_call 27; (fail_if_success have hx := E0); refine (cenc_ex wa).mono ?_; rintro e wb ⟨Ab, cb, rfl, hob, hbb⟩; have hvb := hba.trans (hbb.mono hza); have hzb := hvb.size; have b2b := HB2.out.below hvb hgv; clear hob; have E0 := True.intro)
    | ((with_reducible show wpList _ _ _ (Oper.mk (some 27) (Op.load 56 _) _ _ _ _ :: _) _ _); refine wpList_load_whole rfl 56 (.tmp 2) rfl (g2) rfl #[.int .i64 kind, .int .i64 unit, .int .i64 block, .int .i64 many, .slice A m c, .int .i64 op, .int .i64 0, .int .i64 key, .int .i64 new, .int .i64 ty, .bool st] aggCm rfl _ b2b ?_)
    | (go_at_call 29; refine (large15_c kind unit block many op 0 key new ty st hmx false (decide_eq_false (by omega))).mono ?_; rintro e w2 ⟨rfl, hb2⟩; have hv2 := hvb.trans (hb2.mono hzb); have hz2 := hv2.size; have b22 := HB2.out.below hv2 hgv)
    | ((with_reducible show wpList _ _ _ (Oper.mk (some 35) (Op.load 56 _) _ _ _ _ :: _) _ _); refine wpList_load_whole rfl 56 (.tmp 2) rfl (g2) rfl #[.int .i64 kind, .int .i64 unit, .int .i64 block, .int .i64 many, .slice A m c, .int .i64 op, .int .i64 0, .int .i64 key, .int .i64 new, .int .i64 ty, .bool st] aggCm rfl _ b22 ?_)
    | (go_at_call 27; have hprev := E0; clear hprev; (fail_if_success have hx := E1); refine (cenc_yes kind unit block many op 0 key new ty st (HD.out.below (hv2.mono hz)) (Nat.le_trans hz hz2) (by omega) HX.out HY.out HOK.out).mono ?_; rintro e w3 ⟨A3, N3, c3, rfl, ho3, hb3⟩; have hv3 := hv2.trans (hb3.mono hz2); have hz3 := hv3.size; have E1 := True.intro)
    | (go_at_call 35; (fail_if_success have hx := D1); refine (cdec_no (HE.out.below (hv3.mono hz)) (Nat.le_trans hz hz3) (by omega) HD1.out).mono ?_; rintro e w4 ⟨rfl, hb4⟩; have hv4 := hv3.trans (hb4.mono hz3); have hz4 := hv4.size; have bn4 := Blk.new w4 56 #[.int .i64 0, .int .i64 0, .int .i64 0, .int .i64 0, .slice none 0 0, .int .i64 0, .int .i64 0, .int .i64 0, .int .i64 0, .int .i64 0, .bool false]; have D1 := True.intro)
    | ((with_reducible show wpList _ _ _ (Oper.mk (some 9) (Op.alloc 56) _ _ _ _ :: _) _ _); refine wpList_alloc_agg rfl 56 rfl #[.int .i64 0, .int .i64 0, .int .i64 0, .int .i64 0, .slice none 0 0, .int .i64 0, .int .i64 0, .int .i64 0, .int .i64 0, .int .i64 0, .bool false] zeroCm ?_)
    | ((with_reducible show wpList _ _ _ (Oper.mk none (Op.store 56 (.tmp 9) _) _ _ _ _ :: _) _ _); refine wpList_store_whole rfl 56 (.tmp 9) (.tmp 42) rfl (w4.heap.size) rfl [.int .i64 0, .int .i64 0, .int .i64 0, .int .i64 0, .slice none 0 0, .int .i64 0, .int .i64 0, .int .i64 0, .int .i64 0, .int .i64 0, .bool false] rfl aggCm rfl _ _ bn4 rfl (by simp [Value.oneCell']) ?_; intro v5 b5 g5 s5; have h45 : Below w4.heap.size w4 v5 := (below_alloc _ _).grown g5 (by simp) (fun k hk => by cases hk; exact Nat.le_refl _); have hv5 := hv4.trans (h45.mono hz4); have hz5 := hv5.size; clear g5 s5; have HO3 := Lib.hid ((ho3.below hb4).below h45))
    | (go_at_call 35; have hprev := D1; clear hprev; refine (cdec_back HO3.out.sl (Nat.le_refl _) (by have := HO3.out.len; have := LENB.out; omega) HGL.out HX.out HY.out).mono ?_; rintro e w7 ⟨A7, m7, c7, rfl, ho7, hb7⟩; have hv7 := hv5.trans (hb7.mono hz5); have hz7 := hv7.size; have bn7 := Blk.new w7 56 #[.int .i64 0, .int .i64 0, .int .i64 0, .int .i64 0, .slice none 0 0, .int .i64 0, .int .i64 0, .int .i64 0, .int .i64 0, .int .i64 0, .bool false])
    | ((with_reducible show wpList _ _ _ (Oper.mk (some 13) (Op.alloc 56) _ _ _ _ :: _) _ _); refine wpList_alloc_agg rfl 56 rfl #[.int .i64 0, .int .i64 0, .int .i64 0, .int .i64 0, .slice none 0 0, .int .i64 0, .int .i64 0, .int .i64 0, .int .i64 0, .int .i64 0, .bool false] zeroCm ?_)
    | ((with_reducible show wpList _ _ _ (Oper.mk none (Op.store 56 (.tmp 13) _) _ _ _ _ :: _) _ _); refine wpList_store_whole rfl 56 (.tmp 13) (.tmp 64) rfl (w7.heap.size) rfl [.int .i64 kind, .int .i64 unit, .int .i64 block, .int .i64 many, .slice A7 m7 c7, .int .i64 op, .int .i64 0, .int .i64 key, .int .i64 new, .int .i64 ty, .bool st] rfl aggCm rfl _ _ bn7 rfl (by simp [Value.oneCell']) ?_; intro v8 b8 g8 s8; have h78 : Below w7.heap.size w7 v8 := (below_alloc _ _).grown g8 (by simp) (fun k hk => by cases hk; exact Nat.le_refl _); have hv8 := hv7.trans (h78.mono hz7); have hz8 := hv8.size; have b28 := HB2.out.below hv8 hgv; clear g8 s8)
    | ((with_reducible show wpList _ _ _ (Oper.mk (some 69) (Op.load 56 _) _ _ _ _ :: _) _ _); refine wpList_load_whole rfl 56 (.tmp 13) rfl (w7.heap.size) rfl #[.int .i64 kind, .int .i64 unit, .int .i64 block, .int .i64 many, .slice A7 m7 c7, .int .i64 op, .int .i64 0, .int .i64 key, .int .i64 new, .int .i64 ty, .bool st] aggCm rfl _ b8 ?_)
    | ((with_reducible show wpList _ _ _ (Oper.mk (some 70) (Op.load 56 _) _ _ _ _ :: _) _ _); refine wpList_load_whole rfl 56 (.tmp 2) rfl (g2) rfl #[.int .i64 kind, .int .i64 unit, .int .i64 block, .int .i64 many, .slice A m c, .int .i64 op, .int .i64 0, .int .i64 key, .int .i64 new, .int .i64 ty, .bool st] aggCm rfl _ b28 ?_)
    | (go_at_call 38; (fail_if_success have hx := C1); refine (csame_eq kind unit block many op 0 key new ty st (OwB.sl (ho7.below h78)) (HD.out.below (hv8.mono hz)) (Nat.le_refl _) (Nat.le_trans hz hz8)).mono ?_; rintro e w9 ⟨rfl, hb9⟩; have hv9 := hv8.trans (hb9.mono hz8); have hz9 := hv9.size; have b29 := HB2.out.below hv9 hgv; have C1 := True.intro))
  go_ret
  exact ⟨rfl, hbv.trans (hv9.mono hz)⟩

set_option maxHeartbeats 4000000 in
theorem walk_bad1 (kind unit block many op who key new ty : Int) (st : Bool) (A : Option Addr) (m c : Nat) (ds : List UInt8) (A1 : Option Addr) (n1 c1 : Nat) (bs : List UInt8) (w : World) (w0 : SlB w w.heap.size A m c ds) (w1 : SlB w w.heap.size A1 n1 c1 bs)
    (HX : Hid ((Lit.int .i64 kind).wf = true ∧ (Lit.int .i64 unit).wf = true ∧ (Lit.int .i64 block).wf = true ∧ (Lit.int .i64 many).wf = true)) (HY : Hid ((Lit.int .i64 op).wf = true ∧ (Lit.int .i64 key).wf = true ∧ (Lit.int .i64 new).wf = true ∧ (Lit.int .i64 ty).wf = true)) (hbi : ¬ (16384 : Int) < (m : Int)) (hbj : ¬ (16384 : Int) < (n1 : Int)) (HD1 : Hid (cdecOk bs)) (HOK : Hid (¬ goodC kind unit block many m op who key new ty st)) :
    Calls Try.prog 11 #[.agg #[.int .i64 kind, .int .i64 unit, .int .i64 block, .int .i64 many, .slice A m c, .int .i64 op, .int .i64 who, .int .i64 key, .int .i64 new, .int .i64 ty, .bool st], .slice A1 n1 c1] w fun e w' => e = .returned (.bool true) ∧ Below w.heap.size w w' := by
  have hmx := w0.mx
  have hmx1 := w1.mx
  have hmc := w0.le
  have hmc1 := w1.le
  have LENB := Lib.hid (show (cmB kind unit block many op key new ty st ds).length ≤ 25 + m by have := len_cmB (kind := kind) (unit := unit) (block := block) (many := many) (op := op) (key := key) (new := new) (ty := ty) (st := st) (ds := ds); have := w0.len; omega)
  have HDL := Lib.hid (show (datc bs).length ≤ n1 by have := w1.len; rw [datc, List.length_drop]; omega)
  obtain ⟨g2, hg2⟩ : ∃ g, g = w.heap.size := ⟨_, rfl⟩
  obtain ⟨v, hv⟩ : ∃ v, v = w.alloc (.cells #[.int .i64 kind, .int .i64 unit, .int .i64 block, .int .i64 many, .slice A m c, .int .i64 op, .int .i64 who, .int .i64 key, .int .i64 new, .int .i64 ty, .bool st] 56) := ⟨_, rfl⟩
  have b2 : Blk v g2 56 #[.int .i64 kind, .int .i64 unit, .int .i64 block, .int .i64 many, .slice A m c, .int .i64 op, .int .i64 who, .int .i64 key, .int .i64 new, .int .i64 ty, .bool st] := by rw [hv, hg2]; exact Blk.new _ _ _
  have hbv : Below w.heap.size w v := by rw [hv]; exact below_alloc _ _
  have hz := hbv.size
  have hgv := b2.lt
  have HD := Lib.hid (w0.below hbv)
  have HE := Lib.hid (w1.below hbv)
  have HV := Lib.hid hv
  have HG := Lib.hid hg2
  have HB2 := Lib.hid b2
  clear hv hg2 w0 w1 b2
  go_enter Try.func11, Try.ntmps11
  go_wp2_with (first
    | (go_at_call 28; rw [← HV.out, ← HG.out]; refine (example_c v).mono ?_; rintro e wa ⟨rfl, hba⟩; have hza := hba.size)
    | (go_at_call 27; (fail_if_success have hx := E0); refine (cenc_ex wa).mono ?_; rintro e wb ⟨Ab, cb, rfl, hob, hbb⟩; have hvb := hba.trans (hbb.mono hza); have hzb := hvb.size; have b2b := HB2.out.below hvb hgv; clear hob; have E0 := True.intro)
    | ((with_reducible show wpList _ _ _ (Oper.mk (some 27) (Op.load 56 _) _ _ _ _ :: _) _ _); refine wpList_load_whole rfl 56 (.tmp 2) rfl (g2) rfl #[.int .i64 kind, .int .i64 unit, .int .i64 block, .int .i64 many, .slice A m c, .int .i64 op, .int .i64 who, .int .i64 key, .int .i64 new, .int .i64 ty, .bool st] aggCm rfl _ b2b ?_)
    | (go_at_call 29; refine (large15_c kind unit block many op who key new ty st hmx false (decide_eq_false (by omega))).mono ?_; rintro e w2 ⟨rfl, hb2⟩; have hv2 := hvb.trans (hb2.mono hzb); have hz2 := hv2.size; have b22 := HB2.out.below hv2 hgv)
    | ((with_reducible show wpList _ _ _ (Oper.mk (some 35) (Op.load 56 _) _ _ _ _ :: _) _ _); refine wpList_load_whole rfl 56 (.tmp 2) rfl (g2) rfl #[.int .i64 kind, .int .i64 unit, .int .i64 block, .int .i64 many, .slice A m c, .int .i64 op, .int .i64 who, .int .i64 key, .int .i64 new, .int .i64 ty, .bool st] aggCm rfl _ b22 ?_)
    | (go_at_call 27; have hprev := E0; clear hprev; (fail_if_success have hx := E1); refine (cenc_bad kind unit block many op who key new ty st (HD.out.below (hv2.mono hz)) (Nat.le_trans hz hz2) (by omega) HX.out HY.out HOK.out).mono ?_; rintro e w3 ⟨rfl, hb3⟩; have hv3 := hv2.trans (hb3.mono hz2); have hz3 := hv3.size; have E1 := True.intro)
    | (go_at_call 35; (fail_if_success have hx := D1); refine (cdec_yes (HE.out.below (hv3.mono hz)) (Nat.le_trans hz hz3) (by omega) HD1.out).mono ?_; rintro e w4 ⟨A4, m4, c4, rfl, ho4, hb4⟩; have hv4 := hv3.trans (hb4.mono hz3); have hz4 := hv4.size; have bn4 := Blk.new w4 56 #[.int .i64 0, .int .i64 0, .int .i64 0, .int .i64 0, .slice none 0 0, .int .i64 0, .int .i64 0, .int .i64 0, .int .i64 0, .int .i64 0, .bool false]; have D1 := True.intro)
    | ((with_reducible show wpList _ _ _ (Oper.mk (some 9) (Op.alloc 56) _ _ _ _ :: _) _ _); refine wpList_alloc_agg rfl 56 rfl #[.int .i64 0, .int .i64 0, .int .i64 0, .int .i64 0, .slice none 0 0, .int .i64 0, .int .i64 0, .int .i64 0, .int .i64 0, .int .i64 0, .bool false] zeroCm ?_)
    | ((with_reducible show wpList _ _ _ (Oper.mk none (Op.store 56 (.tmp 9) _) _ _ _ _ :: _) _ _); refine wpList_store_whole rfl 56 (.tmp 9) (.tmp 42) rfl (w4.heap.size) rfl [.int .i64 (nm bs 0 1), .int .i64 (nm bs 1 1), .int .i64 (nm bs 2 2), .int .i64 (nm bs 4 2), .slice A4 m4 c4, .int .i64 (rOp bs), .int .i64 0, .int .i64 (rKey bs), .int .i64 (rNew bs), .int .i64 (rTy bs), .bool (rSt bs)] rfl aggCm rfl _ _ bn4 rfl (by simp [Value.oneCell']) ?_; intro v5 b5 g5 s5; have h45 : Below w4.heap.size w4 v5 := (below_alloc _ _).grown g5 (by simp) (fun k hk => by cases hk; exact Nat.le_refl _); have hv5 := hv4.trans (h45.mono hz4); have hz5 := hv5.size; clear g5 s5)
    | ((with_reducible show wpList _ _ _ (Oper.mk (some 47) (Op.load 56 _) _ _ _ _ :: _) _ _); refine wpList_load_whole rfl 56 (.tmp 9) rfl (w4.heap.size) rfl #[.int .i64 (nm bs 0 1), .int .i64 (nm bs 1 1), .int .i64 (nm bs 2 2), .int .i64 (nm bs 4 2), .slice A4 m4 c4, .int .i64 (rOp bs), .int .i64 0, .int .i64 (rKey bs), .int .i64 (rNew bs), .int .i64 (rTy bs), .bool (rSt bs)] aggCm rfl _ b5 ?_)
    | (go_at_call 27; have hprev := E1; clear hprev; refine (cenc_yes (nm bs 0 1) (nm bs 1 1) (nm bs 2 2) (nm bs 4 2) (rOp bs) 0 (rKey bs) (rNew bs) (rTy bs) (rSt bs) (OwB.sl (ho4.below h45)) (Nat.le_refl _) (by have := ho4.len; have := HDL.out; omega) ⟨nm_wf _ _ _, nm_wf _ _ _, nm_wf _ _ _, nm_wf _ _ _⟩ ⟨rOp_wf _, rKey_wf _, rNew_wf _, rTy_wf _⟩ (by rw [← ho4.len]; exact HD1.out.2.2)).mono ?_; rintro e w6 ⟨A6, N6, c6, rfl, ho6, hb6⟩; rw [cm_dec HD1.out] at ho6; have hv6 := hv5.trans (hb6.mono hz5); have hz6 := hv6.size; have HO4 := Lib.hid ((ho4.below h45).below hb6); have b56 := b5.below hb6 b5.lt)
    | (go_at_call 17; (fail_if_success have hx := S1); refine (same_c ho6.sl (HE.out.below (hv6.mono hz)) true (by simp)).mono ?_; rintro e w' ⟨rfl, rfl⟩; have S1 := True.intro))
  go_ret
  exact ⟨rfl, hbv.trans (hv6.mono hz)⟩

set_option maxHeartbeats 4000000 in
theorem walk_ok1true (kind unit block many op key new ty : Int) (st : Bool) (A : Option Addr) (m c : Nat) (ds : List UInt8) (A1 : Option Addr) (n1 c1 : Nat) (bs : List UInt8) (w : World) (w0 : SlB w w.heap.size A m c ds) (w1 : SlB w w.heap.size A1 n1 c1 bs)
    (HX : Hid ((Lit.int .i64 kind).wf = true ∧ (Lit.int .i64 unit).wf = true ∧ (Lit.int .i64 block).wf = true ∧ (Lit.int .i64 many).wf = true)) (HY : Hid ((Lit.int .i64 op).wf = true ∧ (Lit.int .i64 key).wf = true ∧ (Lit.int .i64 new).wf = true ∧ (Lit.int .i64 ty).wf = true)) (hbi : ¬ (16384 : Int) < (m : Int)) (hbj : ¬ (16384 : Int) < (n1 : Int)) (HD1 : Hid (cdecOk bs)) (HOK : Hid (goodC kind unit block many m op 0 key new ty st)) (HR : Hid (decide (cmB kind unit block many op key new ty st ds = bs) = true)) (HR2 : Hid ((cmB kind unit block many op key new ty st ds == bs) = true)) :
    Calls Try.prog 11 #[.agg #[.int .i64 kind, .int .i64 unit, .int .i64 block, .int .i64 many, .slice A m c, .int .i64 op, .int .i64 0, .int .i64 key, .int .i64 new, .int .i64 ty, .bool st], .slice A1 n1 c1] w fun e w' => e = .returned (.bool true) ∧ Below w.heap.size w w' := by
  have hmx := w0.mx
  have hmx1 := w1.mx
  have hmc := w0.le
  have hmc1 := w1.le
  have LENB := Lib.hid (show (cmB kind unit block many op key new ty st ds).length ≤ 25 + m by have := len_cmB (kind := kind) (unit := unit) (block := block) (many := many) (op := op) (key := key) (new := new) (ty := ty) (st := st) (ds := ds); have := w0.len; omega)
  have HDL := Lib.hid (show (datc bs).length ≤ n1 by have := w1.len; rw [datc, List.length_drop]; omega)
  obtain ⟨g2, hg2⟩ : ∃ g, g = w.heap.size := ⟨_, rfl⟩
  obtain ⟨v, hv⟩ : ∃ v, v = w.alloc (.cells #[.int .i64 kind, .int .i64 unit, .int .i64 block, .int .i64 many, .slice A m c, .int .i64 op, .int .i64 0, .int .i64 key, .int .i64 new, .int .i64 ty, .bool st] 56) := ⟨_, rfl⟩
  have b2 : Blk v g2 56 #[.int .i64 kind, .int .i64 unit, .int .i64 block, .int .i64 many, .slice A m c, .int .i64 op, .int .i64 0, .int .i64 key, .int .i64 new, .int .i64 ty, .bool st] := by rw [hv, hg2]; exact Blk.new _ _ _
  have hbv : Below w.heap.size w v := by rw [hv]; exact below_alloc _ _
  have hz := hbv.size
  have hgv := b2.lt
  have HD := Lib.hid (w0.below hbv)
  have HE := Lib.hid (w1.below hbv)
  have HV := Lib.hid hv
  have HG := Lib.hid hg2
  have HB2 := Lib.hid b2
  clear hv hg2 w0 w1 b2
  have HGL : Hid (goodC kind unit block many ds.length op 0 key new ty st) := Lib.hid (by rw [HD.out.len]; exact HOK.out)
  go_enter Try.func11, Try.ntmps11
  go_wp2_with (first
    | (go_at_call 28; rw [← HV.out, ← HG.out]; refine (example_c v).mono ?_; rintro e wa ⟨rfl, hba⟩; have hza := hba.size)
    | (go_at_call 27; (fail_if_success have hx := E0); refine (cenc_ex wa).mono ?_; rintro e wb ⟨Ab, cb, rfl, hob, hbb⟩; have hvb := hba.trans (hbb.mono hza); have hzb := hvb.size; have b2b := HB2.out.below hvb hgv; clear hob; have E0 := True.intro)
    | ((with_reducible show wpList _ _ _ (Oper.mk (some 27) (Op.load 56 _) _ _ _ _ :: _) _ _); refine wpList_load_whole rfl 56 (.tmp 2) rfl (g2) rfl #[.int .i64 kind, .int .i64 unit, .int .i64 block, .int .i64 many, .slice A m c, .int .i64 op, .int .i64 0, .int .i64 key, .int .i64 new, .int .i64 ty, .bool st] aggCm rfl _ b2b ?_)
    | (go_at_call 29; refine (large15_c kind unit block many op 0 key new ty st hmx false (decide_eq_false (by omega))).mono ?_; rintro e w2 ⟨rfl, hb2⟩; have hv2 := hvb.trans (hb2.mono hzb); have hz2 := hv2.size; have b22 := HB2.out.below hv2 hgv)
    | ((with_reducible show wpList _ _ _ (Oper.mk (some 35) (Op.load 56 _) _ _ _ _ :: _) _ _); refine wpList_load_whole rfl 56 (.tmp 2) rfl (g2) rfl #[.int .i64 kind, .int .i64 unit, .int .i64 block, .int .i64 many, .slice A m c, .int .i64 op, .int .i64 0, .int .i64 key, .int .i64 new, .int .i64 ty, .bool st] aggCm rfl _ b22 ?_)
    | (go_at_call 27; have hprev := E0; clear hprev; (fail_if_success have hx := E1); refine (cenc_yes kind unit block many op 0 key new ty st (HD.out.below (hv2.mono hz)) (Nat.le_trans hz hz2) (by omega) HX.out HY.out HOK.out).mono ?_; rintro e w3 ⟨A3, N3, c3, rfl, ho3, hb3⟩; have hv3 := hv2.trans (hb3.mono hz2); have hz3 := hv3.size; have E1 := True.intro)
    | (go_at_call 35; (fail_if_success have hx := D1); refine (cdec_yes (HE.out.below (hv3.mono hz)) (Nat.le_trans hz hz3) (by omega) HD1.out).mono ?_; rintro e w4 ⟨A4, m4, c4, rfl, ho4, hb4⟩; have hv4 := hv3.trans (hb4.mono hz3); have hz4 := hv4.size; have bn4 := Blk.new w4 56 #[.int .i64 0, .int .i64 0, .int .i64 0, .int .i64 0, .slice none 0 0, .int .i64 0, .int .i64 0, .int .i64 0, .int .i64 0, .int .i64 0, .bool false]; have D1 := True.intro)
    | ((with_reducible show wpList _ _ _ (Oper.mk (some 9) (Op.alloc 56) _ _ _ _ :: _) _ _); refine wpList_alloc_agg rfl 56 rfl #[.int .i64 0, .int .i64 0, .int .i64 0, .int .i64 0, .slice none 0 0, .int .i64 0, .int .i64 0, .int .i64 0, .int .i64 0, .int .i64 0, .bool false] zeroCm ?_)
    | ((with_reducible show wpList _ _ _ (Oper.mk none (Op.store 56 (.tmp 9) _) _ _ _ _ :: _) _ _); refine wpList_store_whole rfl 56 (.tmp 9) (.tmp 42) rfl (w4.heap.size) rfl [.int .i64 (nm bs 0 1), .int .i64 (nm bs 1 1), .int .i64 (nm bs 2 2), .int .i64 (nm bs 4 2), .slice A4 m4 c4, .int .i64 (rOp bs), .int .i64 0, .int .i64 (rKey bs), .int .i64 (rNew bs), .int .i64 (rTy bs), .bool (rSt bs)] rfl aggCm rfl _ _ bn4 rfl (by simp [Value.oneCell']) ?_; intro v5 b5 g5 s5; have h45 : Below w4.heap.size w4 v5 := (below_alloc _ _).grown g5 (by simp) (fun k hk => by cases hk; exact Nat.le_refl _); have hv5 := hv4.trans (h45.mono hz4); have hz5 := hv5.size; clear g5 s5; have HO3 := Lib.hid ((ho3.below hb4).below h45))
    | ((with_reducible show wpList _ _ _ (Oper.mk (some 47) (Op.load 56 _) _ _ _ _ :: _) _ _); refine wpList_load_whole rfl 56 (.tmp 9) rfl (w4.heap.size) rfl #[.int .i64 (nm bs 0 1), .int .i64 (nm bs 1 1), .int .i64 (nm bs 2 2), .int .i64 (nm bs 4 2), .slice A4 m4 c4, .int .i64 (rOp bs), .int .i64 0, .int .i64 (rKey bs), .int .i64 (rNew bs), .int .i64 (rTy bs), .bool (rSt bs)] aggCm rfl _ b5 ?_)
    | (go_at_call 27; have hprev := E1; clear hprev; refine (cenc_yes (nm bs 0 1) (nm bs 1 1) (nm bs 2 2) (nm bs 4 2) (rOp bs) 0 (rKey bs) (rNew bs) (rTy bs) (rSt bs) (OwB.sl (ho4.below h45)) (Nat.le_refl _) (by have := ho4.len; have := HDL.out; omega) ⟨nm_wf _ _ _, nm_wf _ _ _, nm_wf _ _ _, nm_wf _ _ _⟩ ⟨rOp_wf _, rKey_wf _, rNew_wf _, rTy_wf _⟩ (by rw [← ho4.len]; exact HD1.out.2.2)).mono ?_; rintro e w6 ⟨A6, N6, c6, rfl, ho6, hb6⟩; rw [cm_dec HD1.out] at ho6; have hv6 := hv5.trans (hb6.mono hz5); have hz6 := hv6.size; have HO4 := Lib.hid ((ho4.below h45).below hb6); have b56 := b5.below hb6 b5.lt)
    | (go_at_call 17; (fail_if_success have hx := S1); refine (same_c ho6.sl (HE.out.below (hv6.mono hz)) true (by simp)).mono ?_; rintro e w' ⟨rfl, rfl⟩; have S1 := True.intro)
    | (go_at_call 35; have hprev := D1; clear hprev; refine (cdec_back (HO3.out.below hb6).sl (Nat.le_refl _) (by have := HO3.out.len; have := LENB.out; omega) HGL.out HX.out HY.out).mono ?_; rintro e w7 ⟨A7, m7, c7, rfl, ho7, hb7⟩; have hv7 := hv6.trans (hb7.mono hz6); have hz7 := hv7.size; have bn7 := Blk.new w7 56 #[.int .i64 0, .int .i64 0, .int .i64 0, .int .i64 0, .slice none 0 0, .int .i64 0, .int .i64 0, .int .i64 0, .int .i64 0, .int .i64 0, .bool false]; have b57 := b56.below hb7 b56.lt)
    | ((with_reducible show wpList _ _ _ (Oper.mk (some 13) (Op.alloc 56) _ _ _ _ :: _) _ _); refine wpList_alloc_agg rfl 56 rfl #[.int .i64 0, .int .i64 0, .int .i64 0, .int .i64 0, .slice none 0 0, .int .i64 0, .int .i64 0, .int .i64 0, .int .i64 0, .int .i64 0, .bool false] zeroCm ?_)
    | ((with_reducible show wpList _ _ _ (Oper.mk none (Op.store 56 (.tmp 13) _) _ _ _ _ :: _) _ _); refine wpList_store_whole rfl 56 (.tmp 13) (.tmp 64) rfl (w7.heap.size) rfl [.int .i64 kind, .int .i64 unit, .int .i64 block, .int .i64 many, .slice A7 m7 c7, .int .i64 op, .int .i64 0, .int .i64 key, .int .i64 new, .int .i64 ty, .bool st] rfl aggCm rfl _ _ bn7 rfl (by simp [Value.oneCell']) ?_; intro v8 b8 g8 s8; have h78 : Below w7.heap.size w7 v8 := (below_alloc _ _).grown g8 (by simp) (fun k hk => by cases hk; exact Nat.le_refl _); have hv8 := hv7.trans (h78.mono hz7); have hz8 := hv8.size; have b28 := HB2.out.below hv8 hgv; clear g8 s8; have b58 := b57.below h78 b57.lt)
    | ((with_reducible show wpList _ _ _ (Oper.mk (some 69) (Op.load 56 _) _ _ _ _ :: _) _ _); refine wpList_load_whole rfl 56 (.tmp 13) rfl (w7.heap.size) rfl #[.int .i64 kind, .int .i64 unit, .int .i64 block, .int .i64 many, .slice A7 m7 c7, .int .i64 op, .int .i64 0, .int .i64 key, .int .i64 new, .int .i64 ty, .bool st] aggCm rfl _ b8 ?_)
    | ((with_reducible show wpList _ _ _ (Oper.mk (some 70) (Op.load 56 _) _ _ _ _ :: _) _ _); refine wpList_load_whole rfl 56 (.tmp 2) rfl (g2) rfl #[.int .i64 kind, .int .i64 unit, .int .i64 block, .int .i64 many, .slice A m c, .int .i64 op, .int .i64 0, .int .i64 key, .int .i64 new, .int .i64 ty, .bool st] aggCm rfl _ b28 ?_)
    | (go_at_call 38; (fail_if_success have hx := C1); refine (csame_eq kind unit block many op 0 key new ty st (OwB.sl (ho7.below h78)) (HD.out.below (hv8.mono hz)) (Nat.le_refl _) (Nat.le_trans hz hz8)).mono ?_; rintro e w9 ⟨rfl, hb9⟩; have hv9 := hv8.trans (hb9.mono hz8); have hz9 := hv9.size; have b29 := HB2.out.below hv9 hgv; have b59 := b58.below hb9 b58.lt; have ho49 := (((HO4.out.below hb7).below h78).below hb9); have C1 := True.intro)
    | ((with_reducible show wpList _ _ _ (Oper.mk (some 77) (Op.load 56 _) _ _ _ _ :: _) _ _); refine wpList_load_whole rfl 56 (.tmp 9) rfl (w4.heap.size) rfl #[.int .i64 (nm bs 0 1), .int .i64 (nm bs 1 1), .int .i64 (nm bs 2 2), .int .i64 (nm bs 4 2), .slice A4 m4 c4, .int .i64 (rOp bs), .int .i64 0, .int .i64 (rKey bs), .int .i64 (rNew bs), .int .i64 (rTy bs), .bool (rSt bs)] aggCm rfl _ b59 ?_)
    | ((with_reducible show wpList _ _ _ (Oper.mk (some 78) (Op.load 56 _) _ _ _ _ :: _) _ _); refine wpList_load_whole rfl 56 (.tmp 2) rfl (g2) rfl #[.int .i64 kind, .int .i64 unit, .int .i64 block, .int .i64 many, .slice A m c, .int .i64 op, .int .i64 0, .int .i64 key, .int .i64 new, .int .i64 ty, .bool st] aggCm rfl _ b29 ?_)
    | (go_at_call 38; have hprev := C1; clear hprev; refine (csame_bc kind unit block many op key new ty st (OwB.sl ho49) (HD.out.below (hv9.mono hz)) (Nat.le_refl _) (Nat.le_trans hz hz9) HD1.out HGL.out HX.out HY.out true HR.out).mono ?_; rintro e w10 ⟨rfl, hb10⟩; have hv10 := hv9.trans (hb10.mono hz9); have hz10 := hv10.size; have ho3x := (((HO3.out.below hb6).below hb7).below h78).below hb9 |>.below hb10)
    | (go_at_call 17; have hprev := S1; clear hprev; refine (same_c ho3x.sl (HE.out.below (hv10.mono hz)) true HR2.out).mono ?_; rintro e w' ⟨rfl, rfl⟩))
  go_ret
  exact ⟨rfl, hbv.trans (hv10.mono hz)⟩

set_option maxHeartbeats 4000000 in
theorem walk_ok1false (kind unit block many op key new ty : Int) (st : Bool) (A : Option Addr) (m c : Nat) (ds : List UInt8) (A1 : Option Addr) (n1 c1 : Nat) (bs : List UInt8) (w : World) (w0 : SlB w w.heap.size A m c ds) (w1 : SlB w w.heap.size A1 n1 c1 bs)
    (HX : Hid ((Lit.int .i64 kind).wf = true ∧ (Lit.int .i64 unit).wf = true ∧ (Lit.int .i64 block).wf = true ∧ (Lit.int .i64 many).wf = true)) (HY : Hid ((Lit.int .i64 op).wf = true ∧ (Lit.int .i64 key).wf = true ∧ (Lit.int .i64 new).wf = true ∧ (Lit.int .i64 ty).wf = true)) (hbi : ¬ (16384 : Int) < (m : Int)) (hbj : ¬ (16384 : Int) < (n1 : Int)) (HD1 : Hid (cdecOk bs)) (HOK : Hid (goodC kind unit block many m op 0 key new ty st)) (HR : Hid (decide (cmB kind unit block many op key new ty st ds = bs) = false)) (HR2 : Hid ((cmB kind unit block many op key new ty st ds == bs) = false)) :
    Calls Try.prog 11 #[.agg #[.int .i64 kind, .int .i64 unit, .int .i64 block, .int .i64 many, .slice A m c, .int .i64 op, .int .i64 0, .int .i64 key, .int .i64 new, .int .i64 ty, .bool st], .slice A1 n1 c1] w fun e w' => e = .returned (.bool true) ∧ Below w.heap.size w w' := by
  have hmx := w0.mx
  have hmx1 := w1.mx
  have hmc := w0.le
  have hmc1 := w1.le
  have LENB := Lib.hid (show (cmB kind unit block many op key new ty st ds).length ≤ 25 + m by have := len_cmB (kind := kind) (unit := unit) (block := block) (many := many) (op := op) (key := key) (new := new) (ty := ty) (st := st) (ds := ds); have := w0.len; omega)
  have HDL := Lib.hid (show (datc bs).length ≤ n1 by have := w1.len; rw [datc, List.length_drop]; omega)
  obtain ⟨g2, hg2⟩ : ∃ g, g = w.heap.size := ⟨_, rfl⟩
  obtain ⟨v, hv⟩ : ∃ v, v = w.alloc (.cells #[.int .i64 kind, .int .i64 unit, .int .i64 block, .int .i64 many, .slice A m c, .int .i64 op, .int .i64 0, .int .i64 key, .int .i64 new, .int .i64 ty, .bool st] 56) := ⟨_, rfl⟩
  have b2 : Blk v g2 56 #[.int .i64 kind, .int .i64 unit, .int .i64 block, .int .i64 many, .slice A m c, .int .i64 op, .int .i64 0, .int .i64 key, .int .i64 new, .int .i64 ty, .bool st] := by rw [hv, hg2]; exact Blk.new _ _ _
  have hbv : Below w.heap.size w v := by rw [hv]; exact below_alloc _ _
  have hz := hbv.size
  have hgv := b2.lt
  have HD := Lib.hid (w0.below hbv)
  have HE := Lib.hid (w1.below hbv)
  have HV := Lib.hid hv
  have HG := Lib.hid hg2
  have HB2 := Lib.hid b2
  clear hv hg2 w0 w1 b2
  have HGL : Hid (goodC kind unit block many ds.length op 0 key new ty st) := Lib.hid (by rw [HD.out.len]; exact HOK.out)
  go_enter Try.func11, Try.ntmps11
  go_wp2_with (first
    | (go_at_call 28; rw [← HV.out, ← HG.out]; refine (example_c v).mono ?_; rintro e wa ⟨rfl, hba⟩; have hza := hba.size)
    | (go_at_call 27; (fail_if_success have hx := E0); refine (cenc_ex wa).mono ?_; rintro e wb ⟨Ab, cb, rfl, hob, hbb⟩; have hvb := hba.trans (hbb.mono hza); have hzb := hvb.size; have b2b := HB2.out.below hvb hgv; clear hob; have E0 := True.intro)
    | ((with_reducible show wpList _ _ _ (Oper.mk (some 27) (Op.load 56 _) _ _ _ _ :: _) _ _); refine wpList_load_whole rfl 56 (.tmp 2) rfl (g2) rfl #[.int .i64 kind, .int .i64 unit, .int .i64 block, .int .i64 many, .slice A m c, .int .i64 op, .int .i64 0, .int .i64 key, .int .i64 new, .int .i64 ty, .bool st] aggCm rfl _ b2b ?_)
    | (go_at_call 29; refine (large15_c kind unit block many op 0 key new ty st hmx false (decide_eq_false (by omega))).mono ?_; rintro e w2 ⟨rfl, hb2⟩; have hv2 := hvb.trans (hb2.mono hzb); have hz2 := hv2.size; have b22 := HB2.out.below hv2 hgv)
    | ((with_reducible show wpList _ _ _ (Oper.mk (some 35) (Op.load 56 _) _ _ _ _ :: _) _ _); refine wpList_load_whole rfl 56 (.tmp 2) rfl (g2) rfl #[.int .i64 kind, .int .i64 unit, .int .i64 block, .int .i64 many, .slice A m c, .int .i64 op, .int .i64 0, .int .i64 key, .int .i64 new, .int .i64 ty, .bool st] aggCm rfl _ b22 ?_)
    | (go_at_call 27; have hprev := E0; clear hprev; (fail_if_success have hx := E1); refine (cenc_yes kind unit block many op 0 key new ty st (HD.out.below (hv2.mono hz)) (Nat.le_trans hz hz2) (by omega) HX.out HY.out HOK.out).mono ?_; rintro e w3 ⟨A3, N3, c3, rfl, ho3, hb3⟩; have hv3 := hv2.trans (hb3.mono hz2); have hz3 := hv3.size; have E1 := True.intro)
    | (go_at_call 35; (fail_if_success have hx := D1); refine (cdec_yes (HE.out.below (hv3.mono hz)) (Nat.le_trans hz hz3) (by omega) HD1.out).mono ?_; rintro e w4 ⟨A4, m4, c4, rfl, ho4, hb4⟩; have hv4 := hv3.trans (hb4.mono hz3); have hz4 := hv4.size; have bn4 := Blk.new w4 56 #[.int .i64 0, .int .i64 0, .int .i64 0, .int .i64 0, .slice none 0 0, .int .i64 0, .int .i64 0, .int .i64 0, .int .i64 0, .int .i64 0, .bool false]; have D1 := True.intro)
    | ((with_reducible show wpList _ _ _ (Oper.mk (some 9) (Op.alloc 56) _ _ _ _ :: _) _ _); refine wpList_alloc_agg rfl 56 rfl #[.int .i64 0, .int .i64 0, .int .i64 0, .int .i64 0, .slice none 0 0, .int .i64 0, .int .i64 0, .int .i64 0, .int .i64 0, .int .i64 0, .bool false] zeroCm ?_)
    | ((with_reducible show wpList _ _ _ (Oper.mk none (Op.store 56 (.tmp 9) _) _ _ _ _ :: _) _ _); refine wpList_store_whole rfl 56 (.tmp 9) (.tmp 42) rfl (w4.heap.size) rfl [.int .i64 (nm bs 0 1), .int .i64 (nm bs 1 1), .int .i64 (nm bs 2 2), .int .i64 (nm bs 4 2), .slice A4 m4 c4, .int .i64 (rOp bs), .int .i64 0, .int .i64 (rKey bs), .int .i64 (rNew bs), .int .i64 (rTy bs), .bool (rSt bs)] rfl aggCm rfl _ _ bn4 rfl (by simp [Value.oneCell']) ?_; intro v5 b5 g5 s5; have h45 : Below w4.heap.size w4 v5 := (below_alloc _ _).grown g5 (by simp) (fun k hk => by cases hk; exact Nat.le_refl _); have hv5 := hv4.trans (h45.mono hz4); have hz5 := hv5.size; clear g5 s5; have HO3 := Lib.hid ((ho3.below hb4).below h45))
    | ((with_reducible show wpList _ _ _ (Oper.mk (some 47) (Op.load 56 _) _ _ _ _ :: _) _ _); refine wpList_load_whole rfl 56 (.tmp 9) rfl (w4.heap.size) rfl #[.int .i64 (nm bs 0 1), .int .i64 (nm bs 1 1), .int .i64 (nm bs 2 2), .int .i64 (nm bs 4 2), .slice A4 m4 c4, .int .i64 (rOp bs), .int .i64 0, .int .i64 (rKey bs), .int .i64 (rNew bs), .int .i64 (rTy bs), .bool (rSt bs)] aggCm rfl _ b5 ?_)
    | (go_at_call 27; have hprev := E1; clear hprev; refine (cenc_yes (nm bs 0 1) (nm bs 1 1) (nm bs 2 2) (nm bs 4 2) (rOp bs) 0 (rKey bs) (rNew bs) (rTy bs) (rSt bs) (OwB.sl (ho4.below h45)) (Nat.le_refl _) (by have := ho4.len; have := HDL.out; omega) ⟨nm_wf _ _ _, nm_wf _ _ _, nm_wf _ _ _, nm_wf _ _ _⟩ ⟨rOp_wf _, rKey_wf _, rNew_wf _, rTy_wf _⟩ (by rw [← ho4.len]; exact HD1.out.2.2)).mono ?_; rintro e w6 ⟨A6, N6, c6, rfl, ho6, hb6⟩; rw [cm_dec HD1.out] at ho6; have hv6 := hv5.trans (hb6.mono hz5); have hz6 := hv6.size; have HO4 := Lib.hid ((ho4.below h45).below hb6); have b56 := b5.below hb6 b5.lt)
    | (go_at_call 17; (fail_if_success have hx := S1); refine (same_c ho6.sl (HE.out.below (hv6.mono hz)) true (by simp)).mono ?_; rintro e w' ⟨rfl, rfl⟩; have S1 := True.intro)
    | (go_at_call 35; have hprev := D1; clear hprev; refine (cdec_back (HO3.out.below hb6).sl (Nat.le_refl _) (by have := HO3.out.len; have := LENB.out; omega) HGL.out HX.out HY.out).mono ?_; rintro e w7 ⟨A7, m7, c7, rfl, ho7, hb7⟩; have hv7 := hv6.trans (hb7.mono hz6); have hz7 := hv7.size; have bn7 := Blk.new w7 56 #[.int .i64 0, .int .i64 0, .int .i64 0, .int .i64 0, .slice none 0 0, .int .i64 0, .int .i64 0, .int .i64 0, .int .i64 0, .int .i64 0, .bool false]; have b57 := b56.below hb7 b56.lt)
    | ((with_reducible show wpList _ _ _ (Oper.mk (some 13) (Op.alloc 56) _ _ _ _ :: _) _ _); refine wpList_alloc_agg rfl 56 rfl #[.int .i64 0, .int .i64 0, .int .i64 0, .int .i64 0, .slice none 0 0, .int .i64 0, .int .i64 0, .int .i64 0, .int .i64 0, .int .i64 0, .bool false] zeroCm ?_)
    | ((with_reducible show wpList _ _ _ (Oper.mk none (Op.store 56 (.tmp 13) _) _ _ _ _ :: _) _ _); refine wpList_store_whole rfl 56 (.tmp 13) (.tmp 64) rfl (w7.heap.size) rfl [.int .i64 kind, .int .i64 unit, .int .i64 block, .int .i64 many, .slice A7 m7 c7, .int .i64 op, .int .i64 0, .int .i64 key, .int .i64 new, .int .i64 ty, .bool st] rfl aggCm rfl _ _ bn7 rfl (by simp [Value.oneCell']) ?_; intro v8 b8 g8 s8; have h78 : Below w7.heap.size w7 v8 := (below_alloc _ _).grown g8 (by simp) (fun k hk => by cases hk; exact Nat.le_refl _); have hv8 := hv7.trans (h78.mono hz7); have hz8 := hv8.size; have b28 := HB2.out.below hv8 hgv; clear g8 s8; have b58 := b57.below h78 b57.lt)
    | ((with_reducible show wpList _ _ _ (Oper.mk (some 69) (Op.load 56 _) _ _ _ _ :: _) _ _); refine wpList_load_whole rfl 56 (.tmp 13) rfl (w7.heap.size) rfl #[.int .i64 kind, .int .i64 unit, .int .i64 block, .int .i64 many, .slice A7 m7 c7, .int .i64 op, .int .i64 0, .int .i64 key, .int .i64 new, .int .i64 ty, .bool st] aggCm rfl _ b8 ?_)
    | ((with_reducible show wpList _ _ _ (Oper.mk (some 70) (Op.load 56 _) _ _ _ _ :: _) _ _); refine wpList_load_whole rfl 56 (.tmp 2) rfl (g2) rfl #[.int .i64 kind, .int .i64 unit, .int .i64 block, .int .i64 many, .slice A m c, .int .i64 op, .int .i64 0, .int .i64 key, .int .i64 new, .int .i64 ty, .bool st] aggCm rfl _ b28 ?_)
    | (go_at_call 38; (fail_if_success have hx := C1); refine (csame_eq kind unit block many op 0 key new ty st (OwB.sl (ho7.below h78)) (HD.out.below (hv8.mono hz)) (Nat.le_refl _) (Nat.le_trans hz hz8)).mono ?_; rintro e w9 ⟨rfl, hb9⟩; have hv9 := hv8.trans (hb9.mono hz8); have hz9 := hv9.size; have b29 := HB2.out.below hv9 hgv; have b59 := b58.below hb9 b58.lt; have ho49 := (((HO4.out.below hb7).below h78).below hb9); have C1 := True.intro)
    | ((with_reducible show wpList _ _ _ (Oper.mk (some 77) (Op.load 56 _) _ _ _ _ :: _) _ _); refine wpList_load_whole rfl 56 (.tmp 9) rfl (w4.heap.size) rfl #[.int .i64 (nm bs 0 1), .int .i64 (nm bs 1 1), .int .i64 (nm bs 2 2), .int .i64 (nm bs 4 2), .slice A4 m4 c4, .int .i64 (rOp bs), .int .i64 0, .int .i64 (rKey bs), .int .i64 (rNew bs), .int .i64 (rTy bs), .bool (rSt bs)] aggCm rfl _ b59 ?_)
    | ((with_reducible show wpList _ _ _ (Oper.mk (some 78) (Op.load 56 _) _ _ _ _ :: _) _ _); refine wpList_load_whole rfl 56 (.tmp 2) rfl (g2) rfl #[.int .i64 kind, .int .i64 unit, .int .i64 block, .int .i64 many, .slice A m c, .int .i64 op, .int .i64 0, .int .i64 key, .int .i64 new, .int .i64 ty, .bool st] aggCm rfl _ b29 ?_)
    | (go_at_call 38; have hprev := C1; clear hprev; refine (csame_bc kind unit block many op key new ty st (OwB.sl ho49) (HD.out.below (hv9.mono hz)) (Nat.le_refl _) (Nat.le_trans hz hz9) HD1.out HGL.out HX.out HY.out false HR.out).mono ?_; rintro e w10 ⟨rfl, hb10⟩; have hv10 := hv9.trans (hb10.mono hz9); have hz10 := hv10.size; have ho3x := (((HO3.out.below hb6).below hb7).below h78).below hb9 |>.below hb10)
    | (go_at_call 17; have hprev := S1; clear hprev; refine (same_c ho3x.sl (HE.out.below (hv10.mono hz)) false HR2.out).mono ?_; rintro e w' ⟨rfl, rfl⟩))
  go_ret
  exact ⟨rfl, hbv.trans (hv10.mono hz)⟩

theorem walk (A1 : Option Addr) (n1 c1 : Nat) (bs : List UInt8) (cs0 : List Value) (w : World) (w1 : SlB w w.heap.size A1 n1 c1 bs) (y1 : c1 ≤ 140737488351232) (R0 : Rds w (.cons (.int .i64) (.cons (.int .i64) (.cons (.int .i64) (.cons (.int .i64) (.cons (.slice (.int .u8) 1 1) (.cons (.cons (.int .i64) (.cons (.int .i64) (.cons (.int .i64) (.cons (.int .i64) (.cons (.int .i64) (.cons .bool .nil)))))) .nil)))))) cs0) :
    Calls Try.prog 11 #[.agg cs0.toArray, .slice A1 n1 c1] w fun e w' => e = .returned (.bool true) ∧ Below w.heap.size w w' := by
  obtain ⟨_, _, rfl, r0, _, _, rfl, r1, _, _, rfl, r2, _, _, rfl, r3, _, _, rfl, r4, _, _, rfl, r5, rfl⟩ := R0
  obtain ⟨kind, rfl, hx0⟩ := r0
  obtain ⟨unit, rfl, hx1⟩ := r1
  obtain ⟨block, rfl, hx2⟩ := r2
  obtain ⟨many, rfl, hx3⟩ := r3
  obtain ⟨A, m, c, ds, rfl, w4, y4⟩ := Rds.bytes r4
  obtain ⟨_, _, rfl, s0, _, _, rfl, s1, _, _, rfl, s2, _, _, rfl, s3, _, _, rfl, s4, _, _, rfl, s5, rfl⟩ := r5
  obtain ⟨op, rfl, hy0⟩ := s0
  obtain ⟨who, rfl, hy1⟩ := s1
  obtain ⟨key, rfl, hy2⟩ := s2
  obtain ⟨new, rfl, hy3⟩ := s3
  obtain ⟨ty, rfl, hy4⟩ := s4
  obtain ⟨st, rfl⟩ := s5
  clear r4
  simp only [List.cons_append, List.nil_append, List.append_nil]
  have HX := Lib.hid (show (Lit.int .i64 kind).wf = true ∧ (Lit.int .i64 unit).wf = true ∧ (Lit.int .i64 block).wf = true ∧ (Lit.int .i64 many).wf = true from ⟨hx0, hx1, hx2, hx3⟩)
  have HY := Lib.hid (show (Lit.int .i64 op).wf = true ∧ (Lit.int .i64 key).wf = true ∧ (Lit.int .i64 new).wf = true ∧ (Lit.int .i64 ty).wf = true from ⟨hy0, hy2, hy3, hy4⟩)
  by_cases hbi : (16384 : Int) < (m : Int)
  · exact walk_big0 kind unit block many op who key new ty st A m c ds A1 n1 c1 bs w w4 w1 HX HY hbi
  by_cases hbj : (16384 : Int) < (n1 : Int)
  · exact walk_big1 kind unit block many op who key new ty st A m c ds A1 n1 c1 bs w w4 w1 HX HY hbi hbj
  by_cases hok : goodC kind unit block many m op who key new ty st
  · obtain rfl := who_zero hok
    by_cases hd1 : cdecOk bs
    · by_cases he : cmB kind unit block many op key new ty st ds = bs
      · exact walk_ok1true kind unit block many op key new ty st A m c ds A1 n1 c1 bs w w4 w1 HX HY hbi hbj (Lib.hid hd1) (Lib.hid hok) (Lib.hid (decide_eq_true he)) (Lib.hid (by rw [he]; exact beq_self_eq_true bs))
      · exact walk_ok1false kind unit block many op key new ty st A m c ds A1 n1 c1 bs w w4 w1 HX HY hbi hbj (Lib.hid hd1) (Lib.hid hok) (Lib.hid (decide_eq_false he)) (Lib.hid (beq_eq_false_iff_ne.2 he))
    · exact walk_ok0 kind unit block many op key new ty st A m c ds A1 n1 c1 bs w w4 w1 HX HY hbi hbj (Lib.hid hd1) (Lib.hid hok)
  · by_cases hd1 : cdecOk bs
    · exact walk_bad1 kind unit block many op who key new ty st A m c ds A1 n1 c1 bs w w4 w1 HX HY hbi hbj (Lib.hid hd1) (Lib.hid hok)
    · exact walk_bad0 kind unit block many op who key new ty st A m c ds A1 n1 c1 bs w w4 w1 HX HY hbi hbj (Lib.hid hd1) (Lib.hid hok)
end Go.Proofs.Ytjjpifppdjpcnaa.cdbBack
