/-
  Encode of commands by the plain law; the example; what is too large (printed by wip/gen_claw.py).
-/
import Derived.Test.YtjjpifppdjpcnaaCdbRefE
namespace Go.Proofs.Ytjjpifppdjpcnaa
open Go.RowKit
set_option linter.unusedVariables false
set_option linter.unusedSimpArgs false
set_option maxRecDepth 100000

theorem zeroCm : (Try.prog.info? 56).bind (·.zero) = some (.agg #[.int .i64 0, .int .i64 0, .int .i64 0, .int .i64 0, .slice none 0 0, .int .i64 0, .int .i64 0, .int .i64 0, .int .i64 0, .int .i64 0, .bool false]) := by kernel_rfl
theorem cenc_yes {w : World} {B : Nat} {A : Option Addr} {m c : Nat} {ds : List UInt8} (kind unit block many op who key new ty : Int) (st : Bool) (hd : SlB w B A m c ds) (hB : B ≤ w.heap.size) (hm : m ≤ 140737488351000) (hwf : (Lit.int .i64 kind).wf = true ∧ (Lit.int .i64 unit).wf = true ∧ (Lit.int .i64 block).wf = true ∧ (Lit.int .i64 many).wf = true) (hwf2 : (Lit.int .i64 op).wf = true ∧ (Lit.int .i64 key).wf = true ∧ (Lit.int .i64 new).wf = true ∧ (Lit.int .i64 ty).wf = true) (h : goodC kind unit block many m op who key new ty st) :
    Calls Try.prog 27 #[.agg #[.int .i64 kind, .int .i64 unit, .int .i64 block, .int .i64 many, .slice A m c, .int .i64 op, .int .i64 who, .int .i64 key, .int .i64 new, .int .i64 ty, .bool st]] w fun e w' => ∃ A' N c', e = .returned (.tuple #[.slice A' N c', .nilIface]) ∧ OwB w' w.heap.size A' N c' (cmB kind unit block many op key new ty st ds) ∧ Below w.heap.size w w' := by
  refine (cenc_c kind unit block many op who key new ty st hd hB hm hwf hwf2).mono ?_
  rintro e w' ⟨hb, ⟨_, A', N, c', rfl, ho⟩ | ⟨hn, _⟩⟩
  · exact ⟨A', N, c', rfl, ho, hb⟩
  · exact absurd h hn
theorem cenc_bad {w : World} {B : Nat} {A : Option Addr} {m c : Nat} {ds : List UInt8} (kind unit block many op who key new ty : Int) (st : Bool) (hd : SlB w B A m c ds) (hB : B ≤ w.heap.size) (hm : m ≤ 140737488351000) (hwf : (Lit.int .i64 kind).wf = true ∧ (Lit.int .i64 unit).wf = true ∧ (Lit.int .i64 block).wf = true ∧ (Lit.int .i64 many).wf = true) (hwf2 : (Lit.int .i64 op).wf = true ∧ (Lit.int .i64 key).wf = true ∧ (Lit.int .i64 new).wf = true ∧ (Lit.int .i64 ty).wf = true) (h : ¬ goodC kind unit block many m op who key new ty st) :
    Calls Try.prog 27 #[.agg #[.int .i64 kind, .int .i64 unit, .int .i64 block, .int .i64 many, .slice A m c, .int .i64 op, .int .i64 who, .int .i64 key, .int .i64 new, .int .i64 ty, .bool st]] w fun e w' => e = .returned (.tuple #[.slice none 0 0, .iface 35 (.int .i64 11)]) ∧ Below w.heap.size w w' := by
  refine (cenc_c kind unit block many op who key new ty st hd hB hm hwf hwf2).mono ?_
  rintro e w' ⟨hb, ⟨hg, _⟩ | ⟨_, rfl⟩⟩
  · exact absurd hg h
  · exact ⟨rfl, hb⟩
theorem crefenc_yes {w : World} {B : Nat} {A : Option Addr} {m c : Nat} {ds : List UInt8} (kind unit block many op who key new ty : Int) (st : Bool) (hd : SlB w B A m c ds) (hB : B ≤ w.heap.size) (hm : m ≤ 140737488351000) (hwf : (Lit.int .i64 kind).wf = true ∧ (Lit.int .i64 unit).wf = true ∧ (Lit.int .i64 block).wf = true ∧ (Lit.int .i64 many).wf = true) (hwf2 : (Lit.int .i64 op).wf = true ∧ (Lit.int .i64 key).wf = true ∧ (Lit.int .i64 new).wf = true ∧ (Lit.int .i64 ty).wf = true) (h : goodC kind unit block many m op who key new ty st) :
    Calls Try.prog 30 #[.agg #[.int .i64 kind, .int .i64 unit, .int .i64 block, .int .i64 many, .slice A m c, .int .i64 op, .int .i64 who, .int .i64 key, .int .i64 new, .int .i64 ty, .bool st]] w fun e w' => ∃ A' N c', e = .returned (.tuple #[.slice A' N c', .bool true]) ∧ OwB w' w.heap.size A' N c' (cmB kind unit block many op key new ty st ds) ∧ Below w.heap.size w w' := by
  refine (crefenc_c kind unit block many op who key new ty st hd hB hm hwf hwf2).mono ?_
  rintro e w' ⟨hb, ⟨_, A', N, c', rfl, ho⟩ | ⟨hn, _⟩⟩
  · exact ⟨A', N, c', rfl, ho, hb⟩
  · exact absurd h hn
theorem crefenc_bad {w : World} {B : Nat} {A : Option Addr} {m c : Nat} {ds : List UInt8} (kind unit block many op who key new ty : Int) (st : Bool) (hd : SlB w B A m c ds) (hB : B ≤ w.heap.size) (hm : m ≤ 140737488351000) (hwf : (Lit.int .i64 kind).wf = true ∧ (Lit.int .i64 unit).wf = true ∧ (Lit.int .i64 block).wf = true ∧ (Lit.int .i64 many).wf = true) (hwf2 : (Lit.int .i64 op).wf = true ∧ (Lit.int .i64 key).wf = true ∧ (Lit.int .i64 new).wf = true ∧ (Lit.int .i64 ty).wf = true) (h : ¬ goodC kind unit block many m op who key new ty st) :
    Calls Try.prog 30 #[.agg #[.int .i64 kind, .int .i64 unit, .int .i64 block, .int .i64 many, .slice A m c, .int .i64 op, .int .i64 who, .int .i64 key, .int .i64 new, .int .i64 ty, .bool st]] w fun e w' => e = .returned (.tuple #[.slice none 0 0, .bool false]) ∧ Below w.heap.size w w' := by
  refine (crefenc_c kind unit block many op who key new ty st hd hB hm hwf hwf2).mono ?_
  rintro e w' ⟨hb, ⟨hg, _⟩ | ⟨_, rfl⟩⟩
  · exact absurd hg h
  · exact ⟨rfl, hb⟩

theorem good_ex : goodC 1 1 2 3 0 0 0 0 0 0 false := by unfold goodC; simp
theorem cmB_ex : cmB 1 1 2 3 0 0 0 0 false [] = [1, 1, 0, 2, 0, 3] := by decide
theorem cenc_ex (w : World) : Calls Try.prog 27 #[.agg #[.int .i64 1, .int .i64 1, .int .i64 2, .int .i64 3, .slice none 0 0, .int .i64 0, .int .i64 0, .int .i64 0, .int .i64 0, .int .i64 0, .bool false]] w fun e w' => ∃ A' c', e = .returned (.tuple #[.slice A' 6 c', .nilIface]) ∧ OwB w' w.heap.size A' 6 c' [1, 1, 0, 2, 0, 3] ∧ Below w.heap.size w w' := by
  refine (cenc_yes 1 1 2 3 0 0 0 0 0 false (SlB.nil w 0 none) (Nat.zero_le _) (by omega) (by decide) (by decide) good_ex).mono ?_
  rintro e w' ⟨A', N, c', rfl, ho, hb⟩
  rw [cmB_ex] at ho
  obtain rfl : 6 = N := ho.len
  exact ⟨A', c', rfl, ho, hb⟩
theorem example_c (w : World) : Calls Try.prog 28 #[] w fun e w' => e = .returned (.agg #[.int .i64 1, .int .i64 1, .int .i64 2, .int .i64 3, .slice none 0 0, .int .i64 0, .int .i64 0, .int .i64 0, .int .i64 0, .int .i64 0, .bool false]) ∧ Below w.heap.size w w' := by
  have b2 := Blk.new w 56 #[.int .i64 0, .int .i64 0, .int .i64 0, .int .i64 0, .slice none 0 0, .int .i64 0, .int .i64 0, .int .i64 0, .int .i64 0, .int .i64 0, .bool false]
  go_enter Try.func28, Try.ntmps28
  go_wp2_with (first
    | ((with_reducible show wpList _ _ _ (Oper.mk (some 0) (Op.alloc _) _ _ _ _ :: _) _ _); refine wpList_alloc_agg rfl 56 rfl #[.int .i64 0, .int .i64 0, .int .i64 0, .int .i64 0, .slice none 0 0, .int .i64 0, .int .i64 0, .int .i64 0, .int .i64 0, .int .i64 0, .bool false] zeroCm ?_)
    | ((with_reducible show wpList _ _ _ (Oper.mk none (Op.store 56 _ _) _ _ _ _ :: _) _ _); refine wpList_store_whole rfl 56 (.tmp 0) (.tmp 1) rfl w.heap.size rfl [.int .i64 1, .int .i64 1, .int .i64 2, .int .i64 3, .slice none 0 0, .int .i64 0, .int .i64 0, .int .i64 0, .int .i64 0, .int .i64 0, .bool false] rfl aggCm rfl _ _ b2 rfl (by simp [Value.oneCell']) ?_; intro wf bf gf sf))
  refine bodyPost_ret (results_cell_one rfl _ w.heap.size _ #[.int .i64 1, .int .i64 1, .int .i64 2, .int .i64 3, .slice none 0 0, .int .i64 0, .int .i64 0, .int .i64 0, .int .i64 0, .int .i64 0, .bool false] aggCm rfl rfl bf) rfl ⟨rfl, ?_⟩
  exact (below_alloc _ _).grown gf (by simp) (fun k hk => by cases hk; exact Nat.le_refl _)
theorem large15_c {w : World} {A : Option Addr} {m c : Nat} (kind unit block many op who key new ty : Int) (st : Bool) (hm : m ≤ 9223372036854775807) (r : Bool) (hr : decide ((16384 : Int) < (m : Int)) = r) :
    Calls Try.prog 29 #[.agg #[.int .i64 kind, .int .i64 unit, .int .i64 block, .int .i64 many, .slice A m c, .int .i64 op, .int .i64 who, .int .i64 key, .int .i64 new, .int .i64 ty, .bool st]] w fun e w' => e = .returned (.bool r) ∧ Below w.heap.size w w' := by
  have HR := Lib.hid hr
  clear hr
  go_enter Try.func29, Try.ntmps29
  go_wp2_with fail
  go_ret
  exact ⟨by rw [← HR.out]; rfl, below_alloc _ _⟩
end Go.Proofs.Ytjjpifppdjpcnaa
