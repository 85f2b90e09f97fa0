/-
  The reference's Good and Encode of commands (printed by wip/gen_cref.py).
-/
import Derived.Test.YtjjpifppdjpcnaaCdbEnc
namespace Go.Proofs.Ytjjpifppdjpcnaa
open Go.RowKit
set_option linter.unusedVariables false
set_option linter.unusedSimpArgs false
set_option maxRecDepth 100000

theorem zeroRv : (Try.prog.info? 54).bind (·.zero) = some (.agg #[.int .i64 0, .int .i64 0, .int .i64 0, .int .i64 0, .int .i64 0, .bool false]) := by kernel_rfl
theorem int_info : (Try.prog.info? 3).map (fun i => (i.zero, i.size, i.bytes)) = some (some (.int .i64 0), 1, 8) := by kernel_rfl

set_option maxHeartbeats 4000000 in
theorem good_yes {w : World} {A : Option Addr} {m c : Nat} (kind unit block many op who key new ty : Int) (st : Bool) (hm : m ≤ 9223372036854775807) (h : goodC kind unit block many m op who key new ty st) :
    Calls Try.prog 57 #[.agg #[.int .i64 kind, .int .i64 unit, .int .i64 block, .int .i64 many, .slice A m c, .int .i64 op, .int .i64 who, .int .i64 key, .int .i64 new, .int .i64 ty, .bool st]] w fun e w' => e = .returned (.bool true) ∧ Below w.heap.size w w' := by
  obtain ⟨h1, h7, u1, u2, bb1, bb2, m1, m2, a2, a0, az, a6⟩ := h
  by_cases k2 : kind = 2
  · subst k2
    obtain ⟨hm16, hmw⟩ := a2 rfl
    obtain ⟨rfl, rfl, rfl, rfl, rfl, rfl⟩ := az (by decide)
    have hmw' : ((m : Int) != 128 * many) = false := by rw [hmw]; simp
    clear a2 a0 az a6 hmw
    obtain ⟨g1, hg1⟩ : ∃ g, g = w.heap.size := ⟨_, rfl⟩
    obtain ⟨v, hv⟩ : ∃ v, v = w.alloc (.cells #[.int .i64 2, .int .i64 unit, .int .i64 block, .int .i64 many, .slice A m c, .int .i64 0, .int .i64 0, .int .i64 0, .int .i64 0, .int .i64 0, .bool false] 56) := ⟨_, rfl⟩
    have b1 : Blk v g1 56 #[.int .i64 2, .int .i64 unit, .int .i64 block, .int .i64 many, .slice A m c, .int .i64 0, .int .i64 0, .int .i64 0, .int .i64 0, .int .i64 0, .bool false] := by rw [hv, hg1]; exact Blk.new _ _ _
    have hbv : Below w.heap.size w v := by rw [hv]; exact below_alloc _ _
    have hz := hbv.size
    have hgv := b1.lt
    have HV := Lib.hid hv
    have HG := Lib.hid hg1
    have HB1 := Lib.hid b1
    clear hv hg1 b1
    go_enter Try.func57, Try.ntmps57
    go_wp2_with (first
      | ((with_reducible show wpList _ _ _ (Oper.mk (some 62) (Op.load 54 _) _ _ _ _ :: _) _ _); rw [← HV.out, ← HG.out]; refine wpList_load_agg rfl 54 (.tmp 61) rfl g1 5 rfl #[.int .i64 0, .int .i64 0, .int .i64 0, .int .i64 0, .int .i64 0, .bool false] aggRv rfl (fun j v hv => by rw [HB1.out.cell]; revert hv; match j with | 0 => exact id | 1 => exact id | 2 => exact id | 3 => exact id | 4 => exact id | 5 => exact id | _ + 6 => simp) ?_; have bn := Blk.new v 54 #[.int .i64 0, .int .i64 0, .int .i64 0, .int .i64 0, .int .i64 0, .bool false])
      | ((with_reducible show wpList _ _ _ (Oper.mk (some 3) (Op.alloc 54) _ _ _ _ :: _) _ _); refine wpList_alloc_agg rfl 54 rfl #[.int .i64 0, .int .i64 0, .int .i64 0, .int .i64 0, .int .i64 0, .bool false] zeroRv ?_)
      | ((with_reducible show wpList _ _ _ (Oper.mk none (Op.store 54 _ _) _ _ _ _ :: _) _ _); refine wpList_store_whole rfl 54 (.tmp 3) (.tmp 62) rfl v.heap.size rfl [.int .i64 0, .int .i64 0, .int .i64 0, .int .i64 0, .int .i64 0, .bool false] rfl aggRv rfl _ _ bn rfl (by simp [Value.oneCell']) ?_; intro v1 b3 g3 s3; have hb3 : Below v.heap.size v v1 := (below_alloc _ _).grown g3 (by simp) (fun k hk => by cases hk; exact Nat.le_refl _); have e0 : v1.cell? ⟨v.heap.size, 0, none⟩ = some (.int .i64 0) := (by rw [b3.cell]; rfl); have e1 : v1.cell? ⟨v.heap.size, 1, none⟩ = some (.int .i64 0) := (by rw [b3.cell]; rfl); have e2 : v1.cell? ⟨v.heap.size, 2, none⟩ = some (.int .i64 0) := (by rw [b3.cell]; rfl); have e3 : v1.cell? ⟨v.heap.size, 3, none⟩ = some (.int .i64 0) := (by rw [b3.cell]; rfl); have e4 : v1.cell? ⟨v.heap.size, 4, none⟩ = some (.int .i64 0) := (by rw [b3.cell]; rfl); have b13 := HB1.out.below hb3 hgv; have l0 : v1.cell? ⟨g1, 0, none⟩ = some (.int .i64 2) := (by rw [b13.cell]; rfl); clear g3 s3)
      | ((with_reducible show wpList _ _ _ (Oper.mk (some 66) (Op.load 54 _) _ _ _ _ :: _) _ _); refine wpList_load_whole rfl 54 (.tmp 3) rfl v.heap.size rfl #[.int .i64 0, .int .i64 0, .int .i64 0, .int .i64 0, .int .i64 0, .bool false] aggRv rfl _ b3 ?_))
    go_ret
    exact ⟨rfl, hbv.trans (hb3.mono hz)⟩
  · obtain rfl := a0 k2
    by_cases k6 : kind = 6
    · subst k6
      obtain ⟨rfl, o1, o2, hk, hn, t1, t2⟩ := a6 rfl
      clear a2 a0 az a6 k2
      obtain ⟨g1, hg1⟩ : ∃ g, g = w.heap.size := ⟨_, rfl⟩
      obtain ⟨v, hv⟩ : ∃ v, v = w.alloc (.cells #[.int .i64 6, .int .i64 unit, .int .i64 block, .int .i64 many, .slice A 0 c, .int .i64 op, .int .i64 0, .int .i64 key, .int .i64 new, .int .i64 ty, .bool st] 56) := ⟨_, rfl⟩
      have b1 : Blk v g1 56 #[.int .i64 6, .int .i64 unit, .int .i64 block, .int .i64 many, .slice A 0 c, .int .i64 op, .int .i64 0, .int .i64 key, .int .i64 new, .int .i64 ty, .bool st] := by rw [hv, hg1]; exact Blk.new _ _ _
      have hbv : Below w.heap.size w v := by rw [hv]; exact below_alloc _ _
      have hz := hbv.size
      have hgv := b1.lt
      have HV := Lib.hid hv
      have HG := Lib.hid hg1
      have HB1 := Lib.hid b1
      clear hv hg1 b1
      go_enter Try.func57, Try.ntmps57
      go_wp2_with (first
      | ((with_reducible show wpList _ _ _ (Oper.mk (some 62) (Op.load 54 _) _ _ _ _ :: _) _ _); rw [← HV.out, ← HG.out]; refine wpList_load_agg rfl 54 (.tmp 61) rfl g1 5 rfl #[.int .i64 op, .int .i64 0, .int .i64 key, .int .i64 new, .int .i64 ty, .bool st] aggRv rfl (fun j v hv => by rw [HB1.out.cell]; revert hv; match j with | 0 => exact id | 1 => exact id | 2 => exact id | 3 => exact id | 4 => exact id | 5 => exact id | _ + 6 => simp) ?_; have bn := Blk.new v 54 #[.int .i64 0, .int .i64 0, .int .i64 0, .int .i64 0, .int .i64 0, .bool false])
      | ((with_reducible show wpList _ _ _ (Oper.mk (some 3) (Op.alloc 54) _ _ _ _ :: _) _ _); refine wpList_alloc_agg rfl 54 rfl #[.int .i64 0, .int .i64 0, .int .i64 0, .int .i64 0, .int .i64 0, .bool false] zeroRv ?_)
      | ((with_reducible show wpList _ _ _ (Oper.mk none (Op.store 54 _ _) _ _ _ _ :: _) _ _); refine wpList_store_whole rfl 54 (.tmp 3) (.tmp 62) rfl v.heap.size rfl [.int .i64 op, .int .i64 0, .int .i64 key, .int .i64 new, .int .i64 ty, .bool st] rfl aggRv rfl _ _ bn rfl (by simp [Value.oneCell']) ?_; intro v1 b3 g3 s3; have hb3 : Below v.heap.size v v1 := (below_alloc _ _).grown g3 (by simp) (fun k hk => by cases hk; exact Nat.le_refl _); have e0 : v1.cell? ⟨v.heap.size, 0, none⟩ = some (.int .i64 op) := (by rw [b3.cell]; rfl); have e1 : v1.cell? ⟨v.heap.size, 1, none⟩ = some (.int .i64 0) := (by rw [b3.cell]; rfl); have e2 : v1.cell? ⟨v.heap.size, 2, none⟩ = some (.int .i64 key) := (by rw [b3.cell]; rfl); have e3 : v1.cell? ⟨v.heap.size, 3, none⟩ = some (.int .i64 new) := (by rw [b3.cell]; rfl); have e4 : v1.cell? ⟨v.heap.size, 4, none⟩ = some (.int .i64 ty) := (by rw [b3.cell]; rfl); have b13 := HB1.out.below hb3 hgv; have l0 : v1.cell? ⟨g1, 0, none⟩ = some (.int .i64 6) := (by rw [b13.cell]; rfl); clear g3 s3)
      | ((with_reducible show wpList _ _ _ (Oper.mk (some 66) (Op.load 54 _) _ _ _ _ :: _) _ _); refine wpList_load_whole rfl 54 (.tmp 3) rfl v.heap.size rfl #[.int .i64 op, .int .i64 0, .int .i64 key, .int .i64 new, .int .i64 ty, .bool st] aggRv rfl _ b3 ?_))
      go_ret
      exact ⟨rfl, hbv.trans (hb3.mono hz)⟩
    · obtain ⟨rfl, rfl, rfl, rfl, rfl, rfl⟩ := az k6
      have e2 : (kind == 2) = false := by simpa using k2
      have e6 : (kind != 6) = true := by simpa using k6
      clear a2 a0 az a6 k2 k6
      obtain ⟨g1, hg1⟩ : ∃ g, g = w.heap.size := ⟨_, rfl⟩
      obtain ⟨v, hv⟩ : ∃ v, v = w.alloc (.cells #[.int .i64 kind, .int .i64 unit, .int .i64 block, .int .i64 many, .slice A 0 c, .int .i64 0, .int .i64 0, .int .i64 0, .int .i64 0, .int .i64 0, .bool false] 56) := ⟨_, rfl⟩
      have b1 : Blk v g1 56 #[.int .i64 kind, .int .i64 unit, .int .i64 block, .int .i64 many, .slice A 0 c, .int .i64 0, .int .i64 0, .int .i64 0, .int .i64 0, .int .i64 0, .bool false] := by rw [hv, hg1]; exact Blk.new _ _ _
      have hbv : Below w.heap.size w v := by rw [hv]; exact below_alloc _ _
      have hz := hbv.size
      have hgv := b1.lt
      have HV := Lib.hid hv
      have HG := Lib.hid hg1
      have HB1 := Lib.hid b1
      clear hv hg1 b1
      go_enter Try.func57, Try.ntmps57
      go_wp2_with (first
      | ((with_reducible show wpList _ _ _ (Oper.mk (some 62) (Op.load 54 _) _ _ _ _ :: _) _ _); rw [← HV.out, ← HG.out]; refine wpList_load_agg rfl 54 (.tmp 61) rfl g1 5 rfl #[.int .i64 0, .int .i64 0, .int .i64 0, .int .i64 0, .int .i64 0, .bool false] aggRv rfl (fun j v hv => by rw [HB1.out.cell]; revert hv; match j with | 0 => exact id | 1 => exact id | 2 => exact id | 3 => exact id | 4 => exact id | 5 => exact id | _ + 6 => simp) ?_; have bn := Blk.new v 54 #[.int .i64 0, .int .i64 0, .int .i64 0, .int .i64 0, .int .i64 0, .bool false])
      | ((with_reducible show wpList _ _ _ (Oper.mk (some 3) (Op.alloc 54) _ _ _ _ :: _) _ _); refine wpList_alloc_agg rfl 54 rfl #[.int .i64 0, .int .i64 0, .int .i64 0, .int .i64 0, .int .i64 0, .bool false] zeroRv ?_)
      | ((with_reducible show wpList _ _ _ (Oper.mk none (Op.store 54 _ _) _ _ _ _ :: _) _ _); refine wpList_store_whole rfl 54 (.tmp 3) (.tmp 62) rfl v.heap.size rfl [.int .i64 0, .int .i64 0, .int .i64 0, .int .i64 0, .int .i64 0, .bool false] rfl aggRv rfl _ _ bn rfl (by simp [Value.oneCell']) ?_; intro v1 b3 g3 s3; have hb3 : Below v.heap.size v v1 := (below_alloc _ _).grown g3 (by simp) (fun k hk => by cases hk; exact Nat.le_refl _); have e0 : v1.cell? ⟨v.heap.size, 0, none⟩ = some (.int .i64 0) := (by rw [b3.cell]; rfl); have e1 : v1.cell? ⟨v.heap.size, 1, none⟩ = some (.int .i64 0) := (by rw [b3.cell]; rfl); have e2 : v1.cell? ⟨v.heap.size, 2, none⟩ = some (.int .i64 0) := (by rw [b3.cell]; rfl); have e3 : v1.cell? ⟨v.heap.size, 3, none⟩ = some (.int .i64 0) := (by rw [b3.cell]; rfl); have e4 : v1.cell? ⟨v.heap.size, 4, none⟩ = some (.int .i64 0) := (by rw [b3.cell]; rfl); have b13 := HB1.out.below hb3 hgv; have l0 : v1.cell? ⟨g1, 0, none⟩ = some (.int .i64 kind) := (by rw [b13.cell]; rfl); clear g3 s3)
      | ((with_reducible show wpList _ _ _ (Oper.mk (some 66) (Op.load 54 _) _ _ _ _ :: _) _ _); refine wpList_load_whole rfl 54 (.tmp 3) rfl v.heap.size rfl #[.int .i64 0, .int .i64 0, .int .i64 0, .int .i64 0, .int .i64 0, .bool false] aggRv rfl _ b3 ?_))
      go_ret
      exact ⟨rfl, hbv.trans (hb3.mono hz)⟩

set_option maxHeartbeats 4000000 in
theorem good_no {w : World} {A : Option Addr} {m c : Nat} (kind unit block many op who key new ty : Int) (st : Bool) (hm : m ≤ 9223372036854775807) (h : ¬ goodC kind unit block many m op who key new ty st) :
    Calls Try.prog 57 #[.agg #[.int .i64 kind, .int .i64 unit, .int .i64 block, .int .i64 many, .slice A m c, .int .i64 op, .int .i64 who, .int .i64 key, .int .i64 new, .int .i64 ty, .bool st]] w fun e w' => e = .returned (.bool false) ∧ Below w.heap.size w w' := by
  · have H := Lib.hid h
    clear h
    obtain ⟨g1, hg1⟩ : ∃ g, g = w.heap.size := ⟨_, rfl⟩
    obtain ⟨v, hv⟩ : ∃ v, v = w.alloc (.cells #[.int .i64 kind, .int .i64 unit, .int .i64 block, .int .i64 many, .slice A m c, .int .i64 op, .int .i64 who, .int .i64 key, .int .i64 new, .int .i64 ty, .bool st] 56) := ⟨_, rfl⟩
    have b1 : Blk v g1 56 #[.int .i64 kind, .int .i64 unit, .int .i64 block, .int .i64 many, .slice A m c, .int .i64 op, .int .i64 who, .int .i64 key, .int .i64 new, .int .i64 ty, .bool st] := by rw [hv, hg1]; exact Blk.new _ _ _
    have hbv : Below w.heap.size w v := by rw [hv]; exact below_alloc _ _
    have hz := hbv.size
    have hgv := b1.lt
    have HV := Lib.hid hv
    have HG := Lib.hid hg1
    have HB1 := Lib.hid b1
    clear hv hg1 b1
    go_enter Try.func57, Try.ntmps57
    go_wp2_with (first
      | ((with_reducible show wpList _ _ _ (Oper.mk (some 62) (Op.load 54 _) _ _ _ _ :: _) _ _); rw [← HV.out, ← HG.out]; refine wpList_load_agg rfl 54 (.tmp 61) rfl g1 5 rfl #[.int .i64 op, .int .i64 who, .int .i64 key, .int .i64 new, .int .i64 ty, .bool st] aggRv rfl (fun j v hv => by rw [HB1.out.cell]; revert hv; match j with | 0 => exact id | 1 => exact id | 2 => exact id | 3 => exact id | 4 => exact id | 5 => exact id | _ + 6 => simp) ?_; have bn := Blk.new v 54 #[.int .i64 0, .int .i64 0, .int .i64 0, .int .i64 0, .int .i64 0, .bool false])
      | ((with_reducible show wpList _ _ _ (Oper.mk (some 3) (Op.alloc 54) _ _ _ _ :: _) _ _); refine wpList_alloc_agg rfl 54 rfl #[.int .i64 0, .int .i64 0, .int .i64 0, .int .i64 0, .int .i64 0, .bool false] zeroRv ?_)
      | ((with_reducible show wpList _ _ _ (Oper.mk none (Op.store 54 _ _) _ _ _ _ :: _) _ _); refine wpList_store_whole rfl 54 (.tmp 3) (.tmp 62) rfl v.heap.size rfl [.int .i64 op, .int .i64 who, .int .i64 key, .int .i64 new, .int .i64 ty, .bool st] rfl aggRv rfl _ _ bn rfl (by simp [Value.oneCell']) ?_; intro v1 b3 g3 s3; have hb3 : Below v.heap.size v v1 := (below_alloc _ _).grown g3 (by simp) (fun k hk => by cases hk; exact Nat.le_refl _); have e0 : v1.cell? ⟨v.heap.size, 0, none⟩ = some (.int .i64 op) := (by rw [b3.cell]; rfl); have e1 : v1.cell? ⟨v.heap.size, 1, none⟩ = some (.int .i64 who) := (by rw [b3.cell]; rfl); have e2 : v1.cell? ⟨v.heap.size, 2, none⟩ = some (.int .i64 key) := (by rw [b3.cell]; rfl); have e3 : v1.cell? ⟨v.heap.size, 3, none⟩ = some (.int .i64 new) := (by rw [b3.cell]; rfl); have e4 : v1.cell? ⟨v.heap.size, 4, none⟩ = some (.int .i64 ty) := (by rw [b3.cell]; rfl); have b13 := HB1.out.below hb3 hgv; have l0 : v1.cell? ⟨g1, 0, none⟩ = some (.int .i64 kind) := (by rw [b13.cell]; rfl); clear g3 s3)
      | ((with_reducible show wpList _ _ _ (Oper.mk (some 66) (Op.load 54 _) _ _ _ _ :: _) _ _); refine wpList_load_whole rfl 54 (.tmp 3) rfl v.heap.size rfl #[.int .i64 op, .int .i64 who, .int .i64 key, .int .i64 new, .int .i64 ty, .bool st] aggRv rfl _ b3 ?_))
    all_goals first
      | (go_ret; exact ⟨rfl, by assumption⟩)
      | (go_ret; exact ⟨rfl, hbv⟩)
      | (go_ret; exact ⟨rfl, below_alloc _ _⟩)
      | (go_ret; exact ⟨rfl, hbv.trans (hb3.mono hz)⟩)
      | (exfalso
         have H2 := H.out
         clear H
         subst_vars
         simp only [goodC, bne_iff_ne, bne_eq_false_iff_eq, beq_iff_eq, beq_eq_false_iff_ne, ne_eq, reduceCtorEq, and_false, and_true, Bool.true_eq_false, Bool.false_eq_true] at *
         omega)
      | (exfalso
         have hst : st = false := by simpa using ‹¬ st = true›
         subst hst
         subst_vars
         simp only [bne_iff_ne, bne_eq_false_iff_eq, beq_iff_eq, beq_eq_false_iff_ne, ne_eq] at *
         exact H.out ⟨by omega, by omega, by omega, by omega, by omega, by omega, by omega, by omega, fun k => by omega, fun k => by omega, fun _ => ⟨rfl, rfl, rfl, rfl, rfl, rfl⟩, fun k => by omega⟩)
      | (go_ret
         refine ⟨?_, hbv.trans (hb3.mono hz)⟩
         have hv : ¬ (ty ≤ 255) := fun hn => by
           simp only [bne_iff_ne, bne_eq_false_iff_eq, beq_iff_eq, beq_eq_false_iff_ne, ne_eq] at *
           exact H.out ⟨by omega, by omega, by omega, by omega, by omega, by omega, by omega, by omega, fun k => by omega, fun k => by omega, fun k => absurd (by omega) k, fun _ => ⟨by omega, by omega, by omega, by omega, by omega, by omega, by omega⟩⟩
         simp [hv])

end Go.Proofs.Ytjjpifppdjpcnaa
