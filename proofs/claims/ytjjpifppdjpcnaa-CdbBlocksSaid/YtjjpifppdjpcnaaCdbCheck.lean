/-
  Check and Access of commands; the reference's Check (printed by wip/gen_cchk.py).
-/
import Derived.Test.YtjjpifppdjpcnaaCdbLaw
import Derived.Test.YtjjpifppdjpcnaaErr
namespace Go.Proofs.Ytjjpifppdjpcnaa
open Go.RowKit
set_option linter.unusedVariables false
set_option linter.unusedSimpArgs false
set_option maxRecDepth 100000

theorem moves_c {A : Option Addr} {m c : Nat} (kind unit block many op who key new ty : Int) (st : Bool) (w : World) :
    Calls Try.prog 58 #[.agg #[.int .i64 kind, .int .i64 unit, .int .i64 block, .int .i64 many, .slice A m c, .int .i64 op, .int .i64 who, .int .i64 key, .int .i64 new, .int .i64 ty, .bool st]] w fun e w' => e = .returned (.bool (kind == 1 || kind == 2)) ∧ Below w.heap.size w w' := by
  by_cases k1 : kind = 1
  · subst k1
    go_enter Try.func58, Try.ntmps58
    go_wp2_with fail
    go_ret
    exact ⟨rfl, below_alloc _ _⟩
  · have e1 : (kind == 1) = false := by simpa using k1
    clear k1
    go_enter Try.func58, Try.ntmps58
    go_wp2_with fail
    go_ret
    exact ⟨by rw [e1]; rfl, below_alloc _ _⟩
def accV (kind : Int) : Int := if kind = 1 then 1 else if kind = 2 ∨ kind = 3 ∨ kind = 4 then 2 else 0
theorem access_c {A : Option Addr} {m c : Nat} (kind unit block many op who key new ty : Int) (st : Bool) (w : World) :
    Calls Try.prog 32 #[.agg #[.int .i64 kind, .int .i64 unit, .int .i64 block, .int .i64 many, .slice A m c, .int .i64 op, .int .i64 who, .int .i64 key, .int .i64 new, .int .i64 ty, .bool st]] w fun e w' => e = .returned (.int .i64 (accV kind)) ∧ Below w.heap.size w w' := by
  by_cases k1 : kind = 1
  · subst k1
    go_enter Try.func32, Try.ntmps32
    go_wp2_with fail
    go_ret
    exact ⟨rfl, below_alloc _ _⟩
  by_cases k2 : kind = 2
  · subst k2
    go_enter Try.func32, Try.ntmps32
    go_wp2_with fail
    go_ret
    exact ⟨rfl, below_alloc _ _⟩
  by_cases k3 : kind = 3
  · subst k3
    go_enter Try.func32, Try.ntmps32
    go_wp2_with fail
    go_ret
    exact ⟨rfl, below_alloc _ _⟩
  by_cases k4 : kind = 4
  · subst k4
    go_enter Try.func32, Try.ntmps32
    go_wp2_with fail
    go_ret
    exact ⟨rfl, below_alloc _ _⟩
  have HV := Lib.hid (show accV kind = 0 by rw [accV, if_neg k1, if_neg (by omega)])
  have e1 : (kind == 1) = false := by simpa using k1
  have e2 : (kind == 2) = false := by simpa using k2
  have e3 : (kind == 3) = false := by simpa using k3
  have e4 : (kind == 4) = false := by simpa using k4
  clear k1 k2 k3 k4
  go_enter Try.func32, Try.ntmps32
  go_wp2_with fail
  go_ret
  exact ⟨by rw [HV.out]; rfl, below_alloc _ _⟩

set_option maxHeartbeats 2000000 in
theorem check_no {w : World} {B : Nat} {A : Option Addr} {m c : Nat} {ds : List UInt8} (kind unit block many op who key new ty : Int) (st : Bool) (hd : SlB w B A m c ds) (hB : B ≤ w.heap.size) (hm : m ≤ 140737488351000) (hwf : (Lit.int .i64 kind).wf = true ∧ (Lit.int .i64 unit).wf = true ∧ (Lit.int .i64 block).wf = true ∧ (Lit.int .i64 many).wf = true) (hwf2 : (Lit.int .i64 op).wf = true ∧ (Lit.int .i64 key).wf = true ∧ (Lit.int .i64 new).wf = true ∧ (Lit.int .i64 ty).wf = true) (hg : ¬ goodC kind unit block many m op who key new ty st) :
    Calls Try.prog 31 #[.agg #[.int .i64 kind, .int .i64 unit, .int .i64 block, .int .i64 many, .slice A m c, .int .i64 op, .int .i64 who, .int .i64 key, .int .i64 new, .int .i64 ty, .bool st]] w fun e w' => e = .returned (.iface 35 (.int .i64 11)) ∧ Below w.heap.size w w' := by
  have HGD := Lib.hid hg
  clear hg
  obtain ⟨g1, hg1⟩ : ∃ g, g = w.heap.size := ⟨_, rfl⟩
  obtain ⟨v, hv⟩ : ∃ v, v = w.alloc (.cells #[.int .i64 kind, .int .i64 unit, .int .i64 block, .int .i64 many, .slice A m c, .int .i64 op, .int .i64 who, .int .i64 key, .int .i64 new, .int .i64 ty, .bool st] 56) := ⟨_, rfl⟩
  have b1 : Blk v g1 56 #[.int .i64 kind, .int .i64 unit, .int .i64 block, .int .i64 many, .slice A m c, .int .i64 op, .int .i64 who, .int .i64 key, .int .i64 new, .int .i64 ty, .bool st] := by rw [hv, hg1]; exact Blk.new _ _ _
  have hbv : Below w.heap.size w v := by rw [hv]; exact below_alloc _ _
  have hz := hbv.size
  have hgv := b1.lt
  have HD := Lib.hid (hd.below (hbv.mono hB))
  have hmx := hd.mx
  have HV := Lib.hid hv
  have HG := Lib.hid hg1
  have HB1 := Lib.hid b1
  have HX := Lib.hid hwf
  have HY := Lib.hid hwf2
  clear hv hg1 b1 hwf hwf2 hd
  go_enter Try.func31, Try.ntmps31
  go_wp2_with (first
    | ((with_reducible show wpList _ _ _ (Oper.mk (some 6) (Op.load 56 (.tmp 1)) _ _ _ _ :: _) _ _); rw [← HV.out, ← HG.out]; refine wpList_load_whole (by rfl) 56 (.tmp 1) rfl g1 rfl #[.int .i64 kind, .int .i64 unit, .int .i64 block, .int .i64 many, .slice A m c, .int .i64 op, .int .i64 who, .int .i64 key, .int .i64 new, .int .i64 ty, .bool st] aggCm rfl _ HB1.out ?_)
    | (go_at_call 27; refine (cenc_bad kind unit block many op who key new ty st HD.out (Nat.le_trans hB hz) hm HX.out HY.out HGD.out).mono ?_; rintro e w1 ⟨rfl, hb1⟩; have b11 := HB1.out.below hb1 hgv; have k0 : w1.cell? ⟨g1, 0, none⟩ = some (.int .i64 kind) := (by rw [b11.cell]; rfl); have k1 : w1.cell? ⟨g1, 1, none⟩ = some (.int .i64 unit) := (by rw [b11.cell]; rfl); have k2 : w1.cell? ⟨g1, 2, none⟩ = some (.int .i64 block) := (by rw [b11.cell]; rfl); have k3 : w1.cell? ⟨g1, 3, none⟩ = some (.int .i64 many) := (by rw [b11.cell]; rfl); have hv1 := hbv.trans (hb1.mono hz); have hz1 := hb1.size))
  go_ret
  exact ⟨rfl, hv1⟩
set_option maxHeartbeats 2000000 in
theorem check_rangeu {w : World} {B : Nat} {A : Option Addr} {m c : Nat} {ds : List UInt8} (kind unit block many op who key new ty : Int) (st : Bool) (hd : SlB w B A m c ds) (hB : B ≤ w.heap.size) (hm : m ≤ 140737488351000) (hwf : (Lit.int .i64 kind).wf = true ∧ (Lit.int .i64 unit).wf = true ∧ (Lit.int .i64 block).wf = true ∧ (Lit.int .i64 many).wf = true) (hwf2 : (Lit.int .i64 op).wf = true ∧ (Lit.int .i64 key).wf = true ∧ (Lit.int .i64 new).wf = true ∧ (Lit.int .i64 ty).wf = true) (hg : goodC kind unit block many m op who key new ty st) (hr : 2 ≤ unit) :
    Calls Try.prog 31 #[.agg #[.int .i64 kind, .int .i64 unit, .int .i64 block, .int .i64 many, .slice A m c, .int .i64 op, .int .i64 who, .int .i64 key, .int .i64 new, .int .i64 ty, .bool st]] w fun e w' => e = .returned (.iface 35 (.int .i64 1)) ∧ Below w.heap.size w w' := by
  have HGD := Lib.hid hg
  have HR := Lib.hid hr
  have hdu : decide (2 ≤ unit) = true := by simp; omega
  have hb0 : 0 ≤ block ∧ block ≤ 65535 ∧ 0 ≤ many ∧ many ≤ 65535 := ⟨hg.2.2.2.2.1, hg.2.2.2.2.2.1, hg.2.2.2.2.2.2.1, hg.2.2.2.2.2.2.2.1⟩
  obtain ⟨p1, p2, p3, p4⟩ := hb0
  clear hg hr
  obtain ⟨g1, hg1⟩ : ∃ g, g = w.heap.size := ⟨_, rfl⟩
  obtain ⟨v, hv⟩ : ∃ v, v = w.alloc (.cells #[.int .i64 kind, .int .i64 unit, .int .i64 block, .int .i64 many, .slice A m c, .int .i64 op, .int .i64 who, .int .i64 key, .int .i64 new, .int .i64 ty, .bool st] 56) := ⟨_, rfl⟩
  have b1 : Blk v g1 56 #[.int .i64 kind, .int .i64 unit, .int .i64 block, .int .i64 many, .slice A m c, .int .i64 op, .int .i64 who, .int .i64 key, .int .i64 new, .int .i64 ty, .bool st] := by rw [hv, hg1]; exact Blk.new _ _ _
  have hbv : Below w.heap.size w v := by rw [hv]; exact below_alloc _ _
  have hz := hbv.size
  have hgv := b1.lt
  have HD := Lib.hid (hd.below (hbv.mono hB))
  have hmx := hd.mx
  have HV := Lib.hid hv
  have HG := Lib.hid hg1
  have HB1 := Lib.hid b1
  have HX := Lib.hid hwf
  have HY := Lib.hid hwf2
  clear hv hg1 b1 hwf hwf2 hd
  go_enter Try.func31, Try.ntmps31
  go_wp2_with (first
    | ((with_reducible show wpList _ _ _ (Oper.mk (some 6) (Op.load 56 (.tmp 1)) _ _ _ _ :: _) _ _); rw [← HV.out, ← HG.out]; refine wpList_load_whole (by rfl) 56 (.tmp 1) rfl g1 rfl #[.int .i64 kind, .int .i64 unit, .int .i64 block, .int .i64 many, .slice A m c, .int .i64 op, .int .i64 who, .int .i64 key, .int .i64 new, .int .i64 ty, .bool st] aggCm rfl _ HB1.out ?_)
    | (go_at_call 27; refine (cenc_yes kind unit block many op who key new ty st HD.out (Nat.le_trans hB hz) hm HX.out HY.out HGD.out).mono ?_; rintro e w1 ⟨A6, N6, c6, rfl, ho6, hb1⟩; have b11 := HB1.out.below hb1 hgv; have k0 : w1.cell? ⟨g1, 0, none⟩ = some (.int .i64 kind) := (by rw [b11.cell]; rfl); have k1 : w1.cell? ⟨g1, 1, none⟩ = some (.int .i64 unit) := (by rw [b11.cell]; rfl); have k2 : w1.cell? ⟨g1, 2, none⟩ = some (.int .i64 block) := (by rw [b11.cell]; rfl); have k3 : w1.cell? ⟨g1, 3, none⟩ = some (.int .i64 many) := (by rw [b11.cell]; rfl); have hv1 := hbv.trans (hb1.mono hz); have hz1 := hb1.size))
  all_goals first
    | (go_ret; exact ⟨rfl, by assumption⟩)
    | (exfalso
       have H2 := HR.out
       clear HR HGD
       subst_vars
       simp only [bne_iff_ne, bne_eq_false_iff_eq, beq_iff_eq, beq_eq_false_iff_ne, ne_eq, Bool.or_eq_true, Bool.or_eq_false_iff, not_or, true_or, or_true, true_and, and_true, not_and, not_true_eq_false, not_false_eq_true, false_or, or_false, forall_const] at *
       omega)
    | (exfalso
       have H2 := HR.out
       clear HR HGD
       omega)
set_option maxHeartbeats 2000000 in
theorem check_rangem {w : World} {B : Nat} {A : Option Addr} {m c : Nat} {ds : List UInt8} (kind unit block many op who key new ty : Int) (st : Bool) (hd : SlB w B A m c ds) (hB : B ≤ w.heap.size) (hm : m ≤ 140737488351000) (hwf : (Lit.int .i64 kind).wf = true ∧ (Lit.int .i64 unit).wf = true ∧ (Lit.int .i64 block).wf = true ∧ (Lit.int .i64 many).wf = true) (hwf2 : (Lit.int .i64 op).wf = true ∧ (Lit.int .i64 key).wf = true ∧ (Lit.int .i64 new).wf = true ∧ (Lit.int .i64 ty).wf = true) (hg : goodC kind unit block many m op who key new ty st) (hr : unit < 2 ∧ (kind = 1 ∨ kind = 2) ∧ (many < 1 ∨ 16 < block + many)) :
    Calls Try.prog 31 #[.agg #[.int .i64 kind, .int .i64 unit, .int .i64 block, .int .i64 many, .slice A m c, .int .i64 op, .int .i64 who, .int .i64 key, .int .i64 new, .int .i64 ty, .bool st]] w fun e w' => e = .returned (.iface 35 (.int .i64 1)) ∧ Below w.heap.size w w' := by
  have HGD := Lib.hid hg
  have HR := Lib.hid hr
  have hdu : decide (2 ≤ unit) = false := by simp; omega
  have hb0 : 0 ≤ block ∧ block ≤ 65535 ∧ 0 ≤ many ∧ many ≤ 65535 := ⟨hg.2.2.2.2.1, hg.2.2.2.2.2.1, hg.2.2.2.2.2.2.1, hg.2.2.2.2.2.2.2.1⟩
  obtain ⟨p1, p2, p3, p4⟩ := hb0
  clear hg hr
  obtain ⟨g1, hg1⟩ : ∃ g, g = w.heap.size := ⟨_, rfl⟩
  obtain ⟨v, hv⟩ : ∃ v, v = w.alloc (.cells #[.int .i64 kind, .int .i64 unit, .int .i64 block, .int .i64 many, .slice A m c, .int .i64 op, .int .i64 who, .int .i64 key, .int .i64 new, .int .i64 ty, .bool st] 56) := ⟨_, rfl⟩
  have b1 : Blk v g1 56 #[.int .i64 kind, .int .i64 unit, .int .i64 block, .int .i64 many, .slice A m c, .int .i64 op, .int .i64 who, .int .i64 key, .int .i64 new, .int .i64 ty, .bool st] := by rw [hv, hg1]; exact Blk.new _ _ _
  have hbv : Below w.heap.size w v := by rw [hv]; exact below_alloc _ _
  have hz := hbv.size
  have hgv := b1.lt
  have HD := Lib.hid (hd.below (hbv.mono hB))
  have hmx := hd.mx
  have HV := Lib.hid hv
  have HG := Lib.hid hg1
  have HB1 := Lib.hid b1
  have HX := Lib.hid hwf
  have HY := Lib.hid hwf2
  clear hv hg1 b1 hwf hwf2 hd
  go_enter Try.func31, Try.ntmps31
  go_wp2_with (first
    | ((with_reducible show wpList _ _ _ (Oper.mk (some 6) (Op.load 56 (.tmp 1)) _ _ _ _ :: _) _ _); rw [← HV.out, ← HG.out]; refine wpList_load_whole (by rfl) 56 (.tmp 1) rfl g1 rfl #[.int .i64 kind, .int .i64 unit, .int .i64 block, .int .i64 many, .slice A m c, .int .i64 op, .int .i64 who, .int .i64 key, .int .i64 new, .int .i64 ty, .bool st] aggCm rfl _ HB1.out ?_)
    | (go_at_call 27; refine (cenc_yes kind unit block many op who key new ty st HD.out (Nat.le_trans hB hz) hm HX.out HY.out HGD.out).mono ?_; rintro e w1 ⟨A6, N6, c6, rfl, ho6, hb1⟩; have b11 := HB1.out.below hb1 hgv; have k0 : w1.cell? ⟨g1, 0, none⟩ = some (.int .i64 kind) := (by rw [b11.cell]; rfl); have k1 : w1.cell? ⟨g1, 1, none⟩ = some (.int .i64 unit) := (by rw [b11.cell]; rfl); have k2 : w1.cell? ⟨g1, 2, none⟩ = some (.int .i64 block) := (by rw [b11.cell]; rfl); have k3 : w1.cell? ⟨g1, 3, none⟩ = some (.int .i64 many) := (by rw [b11.cell]; rfl); have hv1 := hbv.trans (hb1.mono hz); have hz1 := hb1.size)
    | ((with_reducible show wpList _ _ _ (Oper.mk (some 17) (Op.load 56 (.tmp 1)) _ _ _ _ :: _) _ _); refine wpList_load_whole (by rfl) 56 (.tmp 1) rfl g1 rfl #[.int .i64 kind, .int .i64 unit, .int .i64 block, .int .i64 many, .slice A m c, .int .i64 op, .int .i64 who, .int .i64 key, .int .i64 new, .int .i64 ty, .bool st] aggCm rfl _ b11 ?_)
    | (go_at_call 58; refine (moves_c kind unit block many op who key new ty st w1).mono ?_; rintro e w2 ⟨rfl, hb2⟩; have b12 := b11.below hb2 b11.lt; have j2 : w2.cell? ⟨g1, 2, none⟩ = some (.int .i64 block) := (by rw [b12.cell]; rfl); have j3 : w2.cell? ⟨g1, 3, none⟩ = some (.int .i64 many) := (by rw [b12.cell]; rfl); have hv2 := hv1.trans (hb2.mono hv1.size)))
  all_goals first
    | (go_ret; exact ⟨rfl, by assumption⟩)
    | (exfalso
       have H2 := HR.out
       clear HR HGD
       subst_vars
       simp only [bne_iff_ne, bne_eq_false_iff_eq, beq_iff_eq, beq_eq_false_iff_ne, ne_eq, Bool.or_eq_true, Bool.or_eq_false_iff, not_or, true_or, or_true, true_and, and_true, not_and, not_true_eq_false, not_false_eq_true, false_or, or_false, forall_const] at *
       omega)
    | (exfalso
       have H2 := HR.out
       clear HR HGD
       omega)
set_option maxHeartbeats 2000000 in
theorem check_ok {w : World} {B : Nat} {A : Option Addr} {m c : Nat} {ds : List UInt8} (kind unit block many op who key new ty : Int) (st : Bool) (hd : SlB w B A m c ds) (hB : B ≤ w.heap.size) (hm : m ≤ 140737488351000) (hwf : (Lit.int .i64 kind).wf = true ∧ (Lit.int .i64 unit).wf = true ∧ (Lit.int .i64 block).wf = true ∧ (Lit.int .i64 many).wf = true) (hwf2 : (Lit.int .i64 op).wf = true ∧ (Lit.int .i64 key).wf = true ∧ (Lit.int .i64 new).wf = true ∧ (Lit.int .i64 ty).wf = true) (hg : goodC kind unit block many m op who key new ty st) (hr : ¬ (2 ≤ unit ∨ ((kind = 1 ∨ kind = 2) ∧ (many < 1 ∨ 16 < block + many)))) :
    Calls Try.prog 31 #[.agg #[.int .i64 kind, .int .i64 unit, .int .i64 block, .int .i64 many, .slice A m c, .int .i64 op, .int .i64 who, .int .i64 key, .int .i64 new, .int .i64 ty, .bool st]] w fun e w' => e = .returned (.nilIface) ∧ Below w.heap.size w w' := by
  have HGD := Lib.hid hg
  have HR := Lib.hid hr
  have hdu : decide (2 ≤ unit) = false := by simp; omega
  have hb0 : 0 ≤ block ∧ block ≤ 65535 ∧ 0 ≤ many ∧ many ≤ 65535 := ⟨hg.2.2.2.2.1, hg.2.2.2.2.2.1, hg.2.2.2.2.2.2.1, hg.2.2.2.2.2.2.2.1⟩
  obtain ⟨p1, p2, p3, p4⟩ := hb0
  clear hg hr
  obtain ⟨g1, hg1⟩ : ∃ g, g = w.heap.size := ⟨_, rfl⟩
  obtain ⟨v, hv⟩ : ∃ v, v = w.alloc (.cells #[.int .i64 kind, .int .i64 unit, .int .i64 block, .int .i64 many, .slice A m c, .int .i64 op, .int .i64 who, .int .i64 key, .int .i64 new, .int .i64 ty, .bool st] 56) := ⟨_, rfl⟩
  have b1 : Blk v g1 56 #[.int .i64 kind, .int .i64 unit, .int .i64 block, .int .i64 many, .slice A m c, .int .i64 op, .int .i64 who, .int .i64 key, .int .i64 new, .int .i64 ty, .bool st] := by rw [hv, hg1]; exact Blk.new _ _ _
  have hbv : Below w.heap.size w v := by rw [hv]; exact below_alloc _ _
  have hz := hbv.size
  have hgv := b1.lt
  have HD := Lib.hid (hd.below (hbv.mono hB))
  have hmx := hd.mx
  have HV := Lib.hid hv
  have HG := Lib.hid hg1
  have HB1 := Lib.hid b1
  have HX := Lib.hid hwf
  have HY := Lib.hid hwf2
  clear hv hg1 b1 hwf hwf2 hd
  go_enter Try.func31, Try.ntmps31
  go_wp2_with (first
    | ((with_reducible show wpList _ _ _ (Oper.mk (some 6) (Op.load 56 (.tmp 1)) _ _ _ _ :: _) _ _); rw [← HV.out, ← HG.out]; refine wpList_load_whole (by rfl) 56 (.tmp 1) rfl g1 rfl #[.int .i64 kind, .int .i64 unit, .int .i64 block, .int .i64 many, .slice A m c, .int .i64 op, .int .i64 who, .int .i64 key, .int .i64 new, .int .i64 ty, .bool st] aggCm rfl _ HB1.out ?_)
    | (go_at_call 27; refine (cenc_yes kind unit block many op who key new ty st HD.out (Nat.le_trans hB hz) hm HX.out HY.out HGD.out).mono ?_; rintro e w1 ⟨A6, N6, c6, rfl, ho6, hb1⟩; have b11 := HB1.out.below hb1 hgv; have k0 : w1.cell? ⟨g1, 0, none⟩ = some (.int .i64 kind) := (by rw [b11.cell]; rfl); have k1 : w1.cell? ⟨g1, 1, none⟩ = some (.int .i64 unit) := (by rw [b11.cell]; rfl); have k2 : w1.cell? ⟨g1, 2, none⟩ = some (.int .i64 block) := (by rw [b11.cell]; rfl); have k3 : w1.cell? ⟨g1, 3, none⟩ = some (.int .i64 many) := (by rw [b11.cell]; rfl); have hv1 := hbv.trans (hb1.mono hz); have hz1 := hb1.size)
    | ((with_reducible show wpList _ _ _ (Oper.mk (some 17) (Op.load 56 (.tmp 1)) _ _ _ _ :: _) _ _); refine wpList_load_whole (by rfl) 56 (.tmp 1) rfl g1 rfl #[.int .i64 kind, .int .i64 unit, .int .i64 block, .int .i64 many, .slice A m c, .int .i64 op, .int .i64 who, .int .i64 key, .int .i64 new, .int .i64 ty, .bool st] aggCm rfl _ b11 ?_)
    | (go_at_call 58; refine (moves_c kind unit block many op who key new ty st w1).mono ?_; rintro e w2 ⟨rfl, hb2⟩; have b12 := b11.below hb2 b11.lt; have j2 : w2.cell? ⟨g1, 2, none⟩ = some (.int .i64 block) := (by rw [b12.cell]; rfl); have j3 : w2.cell? ⟨g1, 3, none⟩ = some (.int .i64 many) := (by rw [b12.cell]; rfl); have hv2 := hv1.trans (hb2.mono hv1.size)))
  all_goals first
    | (go_ret; exact ⟨rfl, by assumption⟩)
    | (exfalso
       have H2 := HR.out
       clear HR HGD
       subst_vars
       simp only [bne_iff_ne, bne_eq_false_iff_eq, beq_iff_eq, beq_eq_false_iff_ne, ne_eq, Bool.or_eq_true, Bool.or_eq_false_iff, not_or, true_or, or_true, true_and, and_true, not_and, not_true_eq_false, not_false_eq_true, false_or, or_false, forall_const] at *
       omega)
    | (exfalso
       have H2 := HR.out
       clear HR HGD
       omega)
set_option maxHeartbeats 2000000 in
theorem refcheck_no {w : World} {B : Nat} {A : Option Addr} {m c : Nat} {ds : List UInt8} (kind unit block many op who key new ty : Int) (st : Bool) (hd : SlB w B A m c ds) (hB : B ≤ w.heap.size) (hm : m ≤ 140737488351000) (hwf : (Lit.int .i64 kind).wf = true ∧ (Lit.int .i64 unit).wf = true ∧ (Lit.int .i64 block).wf = true ∧ (Lit.int .i64 many).wf = true) (hwf2 : (Lit.int .i64 op).wf = true ∧ (Lit.int .i64 key).wf = true ∧ (Lit.int .i64 new).wf = true ∧ (Lit.int .i64 ty).wf = true) (hg : ¬ goodC kind unit block many m op who key new ty st) :
    Calls Try.prog 34 #[.agg #[.int .i64 kind, .int .i64 unit, .int .i64 block, .int .i64 many, .slice A m c, .int .i64 op, .int .i64 who, .int .i64 key, .int .i64 new, .int .i64 ty, .bool st]] w fun e w' => e = .returned (.int .i64 11) ∧ Below w.heap.size w w' := by
  have HGD := Lib.hid hg
  clear hg
  obtain ⟨g1, hg1⟩ : ∃ g, g = w.heap.size := ⟨_, rfl⟩
  obtain ⟨v, hv⟩ : ∃ v, v = w.alloc (.cells #[.int .i64 kind, .int .i64 unit, .int .i64 block, .int .i64 many, .slice A m c, .int .i64 op, .int .i64 who, .int .i64 key, .int .i64 new, .int .i64 ty, .bool st] 56) := ⟨_, rfl⟩
  have b1 : Blk v g1 56 #[.int .i64 kind, .int .i64 unit, .int .i64 block, .int .i64 many, .slice A m c, .int .i64 op, .int .i64 who, .int .i64 key, .int .i64 new, .int .i64 ty, .bool st] := by rw [hv, hg1]; exact Blk.new _ _ _
  have hbv : Below w.heap.size w v := by rw [hv]; exact below_alloc _ _
  have hz := hbv.size
  have hgv := b1.lt
  have HD := Lib.hid (hd.below (hbv.mono hB))
  have hmx := hd.mx
  have HV := Lib.hid hv
  have HG := Lib.hid hg1
  have HB1 := Lib.hid b1
  have HX := Lib.hid hwf
  have HY := Lib.hid hwf2
  clear hv hg1 b1 hwf hwf2 hd
  go_enter Try.func34, Try.ntmps34
  go_wp2_with (first
    | ((with_reducible show wpList _ _ _ (Oper.mk (some 3) (Op.load 56 (.tmp 1)) _ _ _ _ :: _) _ _); rw [← HV.out, ← HG.out]; refine wpList_load_whole (by rfl) 56 (.tmp 1) rfl g1 rfl #[.int .i64 kind, .int .i64 unit, .int .i64 block, .int .i64 many, .slice A m c, .int .i64 op, .int .i64 who, .int .i64 key, .int .i64 new, .int .i64 ty, .bool st] aggCm rfl _ HB1.out ?_)
    | (go_at_call 57; refine (good_no kind unit block many op who key new ty st hmx HGD.out).mono ?_; rintro e w1 ⟨rfl, hb1⟩; have b11 := HB1.out.below hb1 hgv; have k0 : w1.cell? ⟨g1, 0, none⟩ = some (.int .i64 kind) := (by rw [b11.cell]; rfl); have k1 : w1.cell? ⟨g1, 1, none⟩ = some (.int .i64 unit) := (by rw [b11.cell]; rfl); have k2 : w1.cell? ⟨g1, 2, none⟩ = some (.int .i64 block) := (by rw [b11.cell]; rfl); have k3 : w1.cell? ⟨g1, 3, none⟩ = some (.int .i64 many) := (by rw [b11.cell]; rfl); have hv1 := hbv.trans (hb1.mono hz); have hz1 := hb1.size))
  go_ret
  exact ⟨rfl, hv1⟩
set_option maxHeartbeats 2000000 in
theorem refcheck_range {w : World} {B : Nat} {A : Option Addr} {m c : Nat} {ds : List UInt8} (kind unit block many op who key new ty : Int) (st : Bool) (hd : SlB w B A m c ds) (hB : B ≤ w.heap.size) (hm : m ≤ 140737488351000) (hwf : (Lit.int .i64 kind).wf = true ∧ (Lit.int .i64 unit).wf = true ∧ (Lit.int .i64 block).wf = true ∧ (Lit.int .i64 many).wf = true) (hwf2 : (Lit.int .i64 op).wf = true ∧ (Lit.int .i64 key).wf = true ∧ (Lit.int .i64 new).wf = true ∧ (Lit.int .i64 ty).wf = true) (hg : goodC kind unit block many m op who key new ty st) (hr : (2 ≤ unit ∨ ((kind = 1 ∨ kind = 2) ∧ (many < 1 ∨ 16 < block + many)))) :
    Calls Try.prog 34 #[.agg #[.int .i64 kind, .int .i64 unit, .int .i64 block, .int .i64 many, .slice A m c, .int .i64 op, .int .i64 who, .int .i64 key, .int .i64 new, .int .i64 ty, .bool st]] w fun e w' => e = .returned (.int .i64 1) ∧ Below w.heap.size w w' := by
  have HGD := Lib.hid hg
  have HR := Lib.hid hr
  have hb0 : 0 ≤ block ∧ block ≤ 65535 ∧ 0 ≤ many ∧ many ≤ 65535 := ⟨hg.2.2.2.2.1, hg.2.2.2.2.2.1, hg.2.2.2.2.2.2.1, hg.2.2.2.2.2.2.2.1⟩
  obtain ⟨p1, p2, p3, p4⟩ := hb0
  clear hg hr
  obtain ⟨g1, hg1⟩ : ∃ g, g = w.heap.size := ⟨_, rfl⟩
  obtain ⟨v, hv⟩ : ∃ v, v = w.alloc (.cells #[.int .i64 kind, .int .i64 unit, .int .i64 block, .int .i64 many, .slice A m c, .int .i64 op, .int .i64 who, .int .i64 key, .int .i64 new, .int .i64 ty, .bool st] 56) := ⟨_, rfl⟩
  have b1 : Blk v g1 56 #[.int .i64 kind, .int .i64 unit, .int .i64 block, .int .i64 many, .slice A m c, .int .i64 op, .int .i64 who, .int .i64 key, .int .i64 new, .int .i64 ty, .bool st] := by rw [hv, hg1]; exact Blk.new _ _ _
  have hbv : Below w.heap.size w v := by rw [hv]; exact below_alloc _ _
  have hz := hbv.size
  have hgv := b1.lt
  have HD := Lib.hid (hd.below (hbv.mono hB))
  have hmx := hd.mx
  have HV := Lib.hid hv
  have HG := Lib.hid hg1
  have HB1 := Lib.hid b1
  have HX := Lib.hid hwf
  have HY := Lib.hid hwf2
  clear hv hg1 b1 hwf hwf2 hd
  go_enter Try.func34, Try.ntmps34
  go_wp2_with (first
    | ((with_reducible show wpList _ _ _ (Oper.mk (some 3) (Op.load 56 (.tmp 1)) _ _ _ _ :: _) _ _); rw [← HV.out, ← HG.out]; refine wpList_load_whole (by rfl) 56 (.tmp 1) rfl g1 rfl #[.int .i64 kind, .int .i64 unit, .int .i64 block, .int .i64 many, .slice A m c, .int .i64 op, .int .i64 who, .int .i64 key, .int .i64 new, .int .i64 ty, .bool st] aggCm rfl _ HB1.out ?_)
    | (go_at_call 57; refine (good_yes kind unit block many op who key new ty st hmx HGD.out).mono ?_; rintro e w1 ⟨rfl, hb1⟩; have b11 := HB1.out.below hb1 hgv; have k0 : w1.cell? ⟨g1, 0, none⟩ = some (.int .i64 kind) := (by rw [b11.cell]; rfl); have k1 : w1.cell? ⟨g1, 1, none⟩ = some (.int .i64 unit) := (by rw [b11.cell]; rfl); have k2 : w1.cell? ⟨g1, 2, none⟩ = some (.int .i64 block) := (by rw [b11.cell]; rfl); have k3 : w1.cell? ⟨g1, 3, none⟩ = some (.int .i64 many) := (by rw [b11.cell]; rfl); have hv1 := hbv.trans (hb1.mono hz); have hz1 := hb1.size))
  all_goals first
    | (go_ret; exact ⟨rfl, by assumption⟩)
    | (exfalso
       have H2 := HR.out
       clear HR HGD
       subst_vars
       simp only [bne_iff_ne, bne_eq_false_iff_eq, beq_iff_eq, beq_eq_false_iff_ne, ne_eq, Bool.or_eq_true, Bool.or_eq_false_iff, not_or, true_or, or_true, true_and, and_true, not_and, not_true_eq_false, not_false_eq_true, false_or, or_false, forall_const] at *
       omega)
    | (exfalso
       have H2 := HR.out
       clear HR HGD
       omega)
set_option maxHeartbeats 2000000 in
theorem refcheck_ok {w : World} {B : Nat} {A : Option Addr} {m c : Nat} {ds : List UInt8} (kind unit block many op who key new ty : Int) (st : Bool) (hd : SlB w B A m c ds) (hB : B ≤ w.heap.size) (hm : m ≤ 140737488351000) (hwf : (Lit.int .i64 kind).wf = true ∧ (Lit.int .i64 unit).wf = true ∧ (Lit.int .i64 block).wf = true ∧ (Lit.int .i64 many).wf = true) (hwf2 : (Lit.int .i64 op).wf = true ∧ (Lit.int .i64 key).wf = true ∧ (Lit.int .i64 new).wf = true ∧ (Lit.int .i64 ty).wf = true) (hg : goodC kind unit block many m op who key new ty st) (hr : ¬ (2 ≤ unit ∨ ((kind = 1 ∨ kind = 2) ∧ (many < 1 ∨ 16 < block + many)))) :
    Calls Try.prog 34 #[.agg #[.int .i64 kind, .int .i64 unit, .int .i64 block, .int .i64 many, .slice A m c, .int .i64 op, .int .i64 who, .int .i64 key, .int .i64 new, .int .i64 ty, .bool st]] w fun e w' => e = .returned (.int .i64 0) ∧ Below w.heap.size w w' := by
  have HGD := Lib.hid hg
  have HR := Lib.hid hr
  have hb0 : 0 ≤ block ∧ block ≤ 65535 ∧ 0 ≤ many ∧ many ≤ 65535 := ⟨hg.2.2.2.2.1, hg.2.2.2.2.2.1, hg.2.2.2.2.2.2.1, hg.2.2.2.2.2.2.2.1⟩
  obtain ⟨p1, p2, p3, p4⟩ := hb0
  clear hg hr
  obtain ⟨g1, hg1⟩ : ∃ g, g = w.heap.size := ⟨_, rfl⟩
  obtain ⟨v, hv⟩ : ∃ v, v = w.alloc (.cells #[.int .i64 kind, .int .i64 unit, .int .i64 block, .int .i64 many, .slice A m c, .int .i64 op, .int .i64 who, .int .i64 key, .int .i64 new, .int .i64 ty, .bool st] 56) := ⟨_, rfl⟩
  have b1 : Blk v g1 56 #[.int .i64 kind, .int .i64 unit, .int .i64 block, .int .i64 many, .slice A m c, .int .i64 op, .int .i64 who, .int .i64 key, .int .i64 new, .int .i64 ty, .bool st] := by rw [hv, hg1]; exact Blk.new _ _ _
  have hbv : Below w.heap.size w v := by rw [hv]; exact below_alloc _ _
  have hz := hbv.size
  have hgv := b1.lt
  have HD := Lib.hid (hd.below (hbv.mono hB))
  have hmx := hd.mx
  have HV := Lib.hid hv
  have HG := Lib.hid hg1
  have HB1 := Lib.hid b1
  have HX := Lib.hid hwf
  have HY := Lib.hid hwf2
  clear hv hg1 b1 hwf hwf2 hd
  go_enter Try.func34, Try.ntmps34
  go_wp2_with (first
    | ((with_reducible show wpList _ _ _ (Oper.mk (some 3) (Op.load 56 (.tmp 1)) _ _ _ _ :: _) _ _); rw [← HV.out, ← HG.out]; refine wpList_load_whole (by rfl) 56 (.tmp 1) rfl g1 rfl #[.int .i64 kind, .int .i64 unit, .int .i64 block, .int .i64 many, .slice A m c, .int .i64 op, .int .i64 who, .int .i64 key, .int .i64 new, .int .i64 ty, .bool st] aggCm rfl _ HB1.out ?_)
    | (go_at_call 57; refine (good_yes kind unit block many op who key new ty st hmx HGD.out).mono ?_; rintro e w1 ⟨rfl, hb1⟩; have b11 := HB1.out.below hb1 hgv; have k0 : w1.cell? ⟨g1, 0, none⟩ = some (.int .i64 kind) := (by rw [b11.cell]; rfl); have k1 : w1.cell? ⟨g1, 1, none⟩ = some (.int .i64 unit) := (by rw [b11.cell]; rfl); have k2 : w1.cell? ⟨g1, 2, none⟩ = some (.int .i64 block) := (by rw [b11.cell]; rfl); have k3 : w1.cell? ⟨g1, 3, none⟩ = some (.int .i64 many) := (by rw [b11.cell]; rfl); have hv1 := hbv.trans (hb1.mono hz); have hz1 := hb1.size))
  all_goals first
    | (go_ret; exact ⟨rfl, by assumption⟩)
    | (exfalso
       have H2 := HR.out
       clear HR HGD
       subst_vars
       simp only [bne_iff_ne, bne_eq_false_iff_eq, beq_iff_eq, beq_eq_false_iff_ne, ne_eq, Bool.or_eq_true, Bool.or_eq_false_iff, not_or, true_or, or_true, true_and, and_true, not_and, not_true_eq_false, not_false_eq_true, false_or, or_false, forall_const] at *
       omega)
    | (exfalso
       have H2 := HR.out
       clear HR HGD
       omega)
end Go.Proofs.Ytjjpifppdjpcnaa
