/-
  errors.Is between errors by number; pdu.Status; pdu.Reply and Reject; the reference's Status.
-/
import Derived.Test.YtjjpifppdjpcnaaPduDec
import Derived.Stop.Asserts
import Derived.Lib.IfaceEq
namespace Go.Proofs.Ytjjpifppdjpcnaa
open Go.RowKit Go.Extern.Stop Go.Stop Go.Extern Go.Extern.ReflectliteType Go.Extern.Rtype
set_option linter.unusedVariables false
set_option linter.unusedSimpArgs false
set_option maxRecDepth 100000

theorem tyOf (v : Value) (w : World) : (Extern.ReflectliteType.typeOf #[.iface 35 v]).run Try.prog w = .ok (.iface 120 (.agg #[.pointer (some ⟨0, 35, none⟩)])) w := by kernel_rfl
theorem tyComp (w : World) : ((Extern.ReflectliteType.method fun t => do noPackHeld "Comparable" t; Functor.map (fun a : TypeInfo => Value.bool a.comparable) (typeInfo t)) #[.agg #[.pointer (some ⟨0, 35, none⟩)]]).run Try.prog w = .ok (.bool true) w := by kernel_rfl
theorem tyMeth (v : Value) (w : World) : (Go.method 263 120 v "Comparable").run Try.prog w = .ok (89, v) w := by kernel_rfl
theorem noIs (v : Value) (xT : TypeId) (w : World) : (Instr.typeAssert (.iface 35 v) xT 122 true).run Try.prog w = .ok (.tuple #[.nilIface, .bool false]) w := run_typeAssert_lacksB Try.underlying122 (by kernel_rfl) (by kernel_rfl) v xT w
theorem noUn (v : Value) (xT : TypeId) (w : World) : (Instr.typeAssert (.iface 35 v) xT 125 true).run Try.prog w = .ok (.tuple #[.nilIface, .bool false]) w := run_typeAssert_lacksB Try.underlying125 (by kernel_rfl) (by kernel_rfl) v xT w
theorem noUs (v : Value) (xT : TypeId) (w : World) : (Instr.typeAssert (.iface 35 v) xT 127 true).run Try.prog w = .ok (.tuple #[.nilIface, .bool false]) w := run_typeAssert_lacksB Try.underlying127 (by kernel_rfl) (by kernel_rfl) v xT w

theorem eis_c (k j : Int) (r : Bool) (hr : (k == j) = r) (w : World) : Calls Try.prog 65 #[.iface 35 (.int .i64 k), .iface 35 (.int .i64 j)] w fun e w' => e = .returned (.bool r) ∧ w = w' := by
  have h8 := @run_callFunc_extern Try.prog 68 _ Extern.ReflectliteType.typeOf Try.func68 (by kernel_rfl) (by kernel_rfl) (by kernel_rfl) (by kernel_rfl)
  have h32 := @run_callFunc_extern Try.prog 89 _ (Extern.ReflectliteType.method fun t => do noPackHeld "Comparable" t; pure (.bool (← typeInfo t).comparable)) Try.func89 (by kernel_rfl) (by kernel_rfl) (by kernel_rfl) (by kernel_rfl)
  have tT := tyOf
  have cT := tyComp
  have mR := tyMeth
  have nE := noIs
  have uE := noUn
  have vE := noUs
  cases r with
  | true =>
    have hq : ∀ W, (binOp .eql 26 (.iface 35 (.int .i64 k)) (.iface 35 (.int .i64 j))).run Try.prog W = .ok (.bool true) W := fun W => by rw [Lib.run_eql_iface_int (P := Try.prog) W k j Try.underlying26 (by kernel_rfl) Try.underlying35, hr]
    go_enter Try.func65, Try.ntmps65
    go_wp2
    refine wp_loop_rounds 1 ?_
    rw [rounds_succ]
    go_wp2
    go_ret
    exact ⟨rfl, rfl⟩
  | false =>
    have hq : ∀ W, (binOp .eql 26 (.iface 35 (.int .i64 k)) (.iface 35 (.int .i64 j))).run Try.prog W = .ok (.bool false) W := fun W => by rw [Lib.run_eql_iface_int (P := Try.prog) W k j Try.underlying26 (by kernel_rfl) Try.underlying35, hr]
    go_enter Try.func65, Try.ntmps65
    go_wp2
    refine wp_loop_rounds 1 ?_
    rw [rounds_succ]
    go_wp2
    go_ret
    exact ⟨rfl, rfl⟩

/-- The status of an error's number. -/
def stV (k : Int) : Int := if k = 8 then 8 else if k = 9 then 24 else if k = 6 then 3 else 2
theorem status_nil (w : World) : Calls Try.prog 46 #[.nilIface] w fun e w' => e = .returned (.int .i64 0) ∧ w = w' := by
  go_enter Try.func46, Try.ntmps46
  go_wp2_with fail
  go_ret
  exact ⟨rfl, rfl⟩
theorem status_c (k : Int) (w : World) : Calls Try.prog 46 #[.iface 35 (.int .i64 k)] w fun e w' => e = .returned (.int .i64 (stV k)) ∧ w = w' := by
  by_cases h8 : k = 8
  · subst h8
    go_enter Try.func46, Try.ntmps46
    go_wp2_with (go_at_call 65; refine (eis_c 8 8 true rfl _).mono ?_; rintro e w' ⟨rfl, rfl⟩)
    go_ret
    exact ⟨rfl, rfl⟩
  by_cases h9 : k = 9
  · subst h9
    go_enter Try.func46, Try.ntmps46
    go_wp2_with (go_at_call 65; refine (eis_c 9 _ _ rfl _).mono ?_; rintro e w' ⟨rfl, rfl⟩)
    go_ret
    exact ⟨rfl, rfl⟩
  by_cases h6 : k = 6
  · subst h6
    go_enter Try.func46, Try.ntmps46
    go_wp2_with (go_at_call 65; refine (eis_c 6 _ _ rfl _).mono ?_; rintro e w' ⟨rfl, rfl⟩)
    go_ret
    exact ⟨rfl, rfl⟩
  have HV := Lib.hid (show stV k = 2 by rw [stV, if_neg h8, if_neg h9, if_neg h6])
  have e8 : (k == 8) = false := by simpa using h8
  have e9 : (k == 9) = false := by simpa using h9
  have e6 : (k == 6) = false := by simpa using h6
  clear h8 h9 h6
  go_enter Try.func46, Try.ntmps46
  go_wp2_with (go_at_call 65; refine (eis_c k _ _ rfl _).mono ?_; rintro e w' ⟨rfl, rfl⟩)
  go_ret
  exact ⟨by rw [HV.out]; rfl, rfl⟩
/-- The reference's. -/
def rstV (k : Int) : Int := if k = 0 then 0 else stV k
theorem refstatus_c (k : Int) (w : World) : Calls Try.prog 45 #[.int .i64 k] w fun e w' => e = .returned (.int .i64 (rstV k)) ∧ w = w' := by
  by_cases h0 : k = 0
  · subst h0
    go_enter Try.func45, Try.ntmps45
    go_wp2_with fail
    go_ret
    exact ⟨rfl, rfl⟩
  by_cases h8 : k = 8
  · subst h8
    go_enter Try.func45, Try.ntmps45
    go_wp2_with fail
    go_ret
    exact ⟨rfl, rfl⟩
  by_cases h9 : k = 9
  · subst h9
    go_enter Try.func45, Try.ntmps45
    go_wp2_with fail
    go_ret
    exact ⟨rfl, rfl⟩
  by_cases h6 : k = 6
  · subst h6
    go_enter Try.func45, Try.ntmps45
    go_wp2_with fail
    go_ret
    exact ⟨rfl, rfl⟩
  have HV := Lib.hid (show rstV k = 2 by rw [rstV, if_neg h0, stV, if_neg h8, if_neg h9, if_neg h6])
  have e0 : (k == 0) = false := by simpa using h0
  have e8 : (k == 8) = false := by simpa using h8
  have e9 : (k == 9) = false := by simpa using h9
  have e6 : (k == 6) = false := by simpa using h6
  clear h8 h9 h6 h0
  go_enter Try.func45, Try.ntmps45
  go_wp2_with fail
  go_ret
  exact ⟨by rw [HV.out]; rfl, rfl⟩
theorem reject_c (x : Int) (w : World) : Calls Try.prog 48 #[.int .i64 x] w fun e w' => e = .returned (.agg #[.int .i64 7, .int .i64 0, .int .i64 x, .slice none 0 0]) ∧ Below w.heap.size w w' := by
  have b2 := Blk.new w 24 #[.int .i64 0, .int .i64 0, .int .i64 0, .slice none 0 0]
  go_enter Try.func48, Try.ntmps48
  go_wp2_with (first
    | ((with_reducible show wpList _ _ _ (Oper.mk (some 2) (Op.alloc _) _ _ _ _ :: _) _ _); refine wpList_alloc_agg rfl 24 rfl #[.int .i64 0, .int .i64 0, .int .i64 0, .slice none 0 0] zeroFr ?_)
    | ((with_reducible show wpList _ _ _ (Oper.mk none (Op.store 24 (.tmp 2) _) _ _ _ _ :: _) _ _); refine wpList_store_whole rfl 24 (.tmp 2) (.tmp 4) rfl w.heap.size rfl [.int .i64 7, .int .i64 0, .int .i64 x, .slice none 0 0] rfl aggFr rfl _ _ b2 rfl (by simp [Value.oneCell']) ?_; intro wf bf gf sf))
  refine bodyPost_ret (results_cell_one rfl _ w.heap.size _ #[.int .i64 7, .int .i64 0, .int .i64 x, .slice none 0 0] aggFr rfl rfl bf) rfl ⟨rfl, ?_⟩
  exact (below_alloc _ _).grown gf (by simp) (fun k hk => by cases hk; exact Nat.le_refl _)
set_option maxHeartbeats 1000000 in
theorem reply_err (n k : Int) {A : Option Addr} {m c : Nat} (w : World) : Calls Try.prog 44 #[.int .i64 n, .slice A m c, .iface 35 (.int .i64 k)] w fun e w' => e = .returned (.agg #[.int .i64 6, .int .i64 n, .int .i64 (stV k), .slice none 0 0]) ∧ Below w.heap.size w w' := by
  obtain ⟨v, hv⟩ : ∃ v, v = w.alloc (.cells #[.int .i64 0, .int .i64 0, .int .i64 0, .slice none 0 0] 24) := ⟨_, rfl⟩
  have b6 : Blk v w.heap.size 24 #[.int .i64 0, .int .i64 0, .int .i64 0, .slice none 0 0] := by rw [hv]; exact Blk.new _ _ _
  have hw : Below w.heap.size w v := by rw [hv]; exact below_alloc _ _
  have hz := hw.size
  have bn := Blk.new v 24 #[.int .i64 0, .int .i64 0, .int .i64 0, .slice none 0 0]
  have HV := Lib.hid hv
  obtain ⟨s, hs⟩ : ∃ s, s = stV k := ⟨_, rfl⟩
  have HS := Lib.hid hs
  rw [← hs]
  clear hv hs
  go_enter Try.func44, Try.ntmps44
  go_wp2_with (first
    | ((with_reducible show wpList _ _ _ (Oper.mk (some 6) (Op.alloc _) _ _ _ _ :: _) _ _); refine wpList_alloc_agg rfl 24 rfl #[.int .i64 0, .int .i64 0, .int .i64 0, .slice none 0 0] zeroFr ?_; rw [← HV.out])
    | (go_at_call 46; refine (status_c k _).mono ?_; rintro e w' ⟨rfl, rfl⟩; rw [← HS.out])
    | ((with_reducible show wpList _ _ _ (Oper.mk (some 7) (Op.alloc _) _ _ _ _ :: _) _ _); refine wpList_alloc_agg rfl 24 rfl #[.int .i64 0, .int .i64 0, .int .i64 0, .slice none 0 0] zeroFr ?_)
    | ((with_reducible show wpList _ _ _ (Oper.mk none (Op.store 24 (.tmp 7) _) _ _ _ _ :: _) _ _); refine wpList_store_whole rfl 24 (.tmp 7) (.tmp 11) rfl v.heap.size rfl [.int .i64 6, .int .i64 n, .int .i64 s, .slice none 0 0] rfl aggFr rfl _ _ bn rfl (by simp [Value.oneCell']) ?_; intro v1 b7 g1 s1; have h01 : Below v.heap.size v v1 := (below_alloc _ _).grown g1 (by simp) (fun k hk => by cases hk; exact Nat.le_refl _); have b61 := b6.below h01 b6.lt; have hw1 := hw.trans (h01.mono hz); have hz1 := hw1.size; clear g1 s1)
    | ((with_reducible show wpList _ _ _ (Oper.mk (some 17) (Op.load 24 _) _ _ _ _ :: _) _ _); refine wpList_load_whole rfl 24 (.tmp 7) rfl v.heap.size rfl #[.int .i64 6, .int .i64 n, .int .i64 s, .slice none 0 0] aggFr rfl _ b7 ?_)
    | ((with_reducible show wpList _ _ _ (Oper.mk none (Op.store 24 (.tmp 6) _) _ _ _ _ :: _) _ _); refine wpList_store_whole rfl 24 (.tmp 6) (.tmp 17) rfl w.heap.size rfl [.int .i64 6, .int .i64 n, .int .i64 s, .slice none 0 0] rfl aggFr rfl _ _ b61 rfl (by simp [Value.oneCell']) ?_; intro wf bf gf sf))
  refine bodyPost_ret (results_cell_one rfl _ w.heap.size _ #[.int .i64 6, .int .i64 n, .int .i64 s, .slice none 0 0] aggFr rfl rfl bf) rfl ⟨rfl, ?_⟩
  exact hw1.grown gf hz1 (fun k hk => by cases hk; exact Nat.le_refl _)
set_option maxHeartbeats 1000000 in
theorem reply_nil (n : Int) {w : World} {B : Nat} {A : Option Addr} {m c : Nat} {ds : List UInt8} (hd : SlB w B A m c ds) (hB : B ≤ w.heap.size) (hm : m ≤ 140737488355328) : Calls Try.prog 44 #[.int .i64 n, .slice A m c, .nilIface] w fun e w' => ∃ A' c', e = .returned (.agg #[.int .i64 6, .int .i64 n, .int .i64 0, .slice A' m c']) ∧ OwB w' w.heap.size A' m c' ds ∧ Below w.heap.size w w' := by
  obtain ⟨v, hv⟩ : ∃ v, v = w.alloc (.cells #[.int .i64 0, .int .i64 0, .int .i64 0, .slice none 0 0] 24) := ⟨_, rfl⟩
  have b6 : Blk v w.heap.size 24 #[.int .i64 0, .int .i64 0, .int .i64 0, .slice none 0 0] := by rw [hv]; exact Blk.new _ _ _
  have hw : Below w.heap.size w v := by rw [hv]; exact below_alloc _ _
  have hz := hw.size
  have bn := Blk.new v 24 #[.int .i64 0, .int .i64 0, .int .i64 0, .slice none 0 0]
  have HV := Lib.hid hv
  have HD := Lib.hid hd
  clear hv hd
  go_enter Try.func44, Try.ntmps44
  go_wp2_with (first
    | ((with_reducible show wpList _ _ _ (Oper.mk (some 6) (Op.alloc _) _ _ _ _ :: _) _ _); refine wpList_alloc_agg rfl 24 rfl #[.int .i64 0, .int .i64 0, .int .i64 0, .slice none 0 0] zeroFr ?_; rw [← HV.out])
    | (go_at_call 46; refine (status_nil _).mono ?_; rintro e w' ⟨rfl, rfl⟩)
    | ((with_reducible show wpList _ _ _ (Oper.mk (some 7) (Op.alloc _) _ _ _ _ :: _) _ _); refine wpList_alloc_agg rfl 24 rfl #[.int .i64 0, .int .i64 0, .int .i64 0, .slice none 0 0] zeroFr ?_)
    | ((with_reducible show wpList _ _ _ (Oper.mk none (Op.store 24 (.tmp 7) _) _ _ _ _ :: _) _ _); refine wpList_store_whole rfl 24 (.tmp 7) (.tmp 11) rfl v.heap.size rfl [.int .i64 6, .int .i64 n, .int .i64 0, .slice none 0 0] rfl aggFr rfl _ _ bn rfl (by simp [Value.oneCell']) ?_; intro v1 b7 g1 s1; have h01 : Below v.heap.size v v1 := (below_alloc _ _).grown g1 (by simp) (fun k hk => by cases hk; exact Nat.le_refl _); have hw1 := hw.trans (h01.mono hz); have hz1 := hw1.size; clear g1 s1)
    | (go_at_call 64; refine (clone_c (HD.out.below (hw1.mono hB)) (Nat.le_trans hB hz1) hm).mono ?_; rintro e w2 ⟨A2, c2, rfl, ho2, hb2, _⟩; have b72 := b7.below hb2 b7.lt; have k4 : w2.cell? ⟨v.heap.size, 3, none⟩ = some (.slice none 0 0) := (by rw [b72.cell]; rfl); have f4 := b72.frozen 3; have b62 := (b6.below h01 b6.lt).below hb2 (Nat.lt_of_lt_of_le b6.lt h01.size); have hw2 := hw1.trans (hb2.mono hz1); have hg7 := b7.lt; have hg6 := b6.lt; obtain ⟨V, hV⟩ : ∃ V, V = w2.setCell ⟨v.heap.size, 3, none⟩ (.slice A2 m c2) := ⟨_, rfl⟩; have b7V : Blk V v.heap.size 24 #[.int .i64 6, .int .i64 n, .int .i64 0, .slice A2 m c2] := (by rw [hV]; simpa using b72.set_ 3 (.slice A2 m c2)); have b6V : Blk V w.heap.size 24 #[.int .i64 0, .int .i64 0, .int .i64 0, .slice none 0 0] := (by rw [hV]; exact b62.far (by show w.heap.size ≠ v.heap.size; omega) _); have hoV : OwB V v1.heap.size A2 m c2 ds := (by rw [hV]; exact own_set ho2 hg7 3 _); have hwV : Below w.heap.size w V := (by rw [hV]; exact hw2.setCell (by show w.heap.size ≤ v.heap.size; omega) _))
    | ((with_reducible show wpList _ _ _ (Oper.mk (some 17) (Op.load 24 _) _ _ _ _ :: _) _ _); rw [← hV]; refine wpList_load_whole rfl 24 (.tmp 7) rfl v.heap.size rfl #[.int .i64 6, .int .i64 n, .int .i64 0, .slice A2 m c2] aggFr rfl _ b7V ?_)
    | ((with_reducible show wpList _ _ _ (Oper.mk none (Op.store 24 (.tmp 6) _) _ _ _ _ :: _) _ _); refine wpList_store_whole rfl 24 (.tmp 6) (.tmp 17) rfl w.heap.size rfl [.int .i64 6, .int .i64 n, .int .i64 0, .slice A2 m c2] rfl aggFr rfl _ _ b6V rfl (by simp [Value.oneCell']) ?_; intro wf bf gf sf))
  refine bodyPost_ret (results_cell_one rfl _ w.heap.size _ #[.int .i64 6, .int .i64 n, .int .i64 0, .slice A2 m c2] aggFr rfl rfl bf) rfl ⟨A2, c2, rfl, ?_, ?_⟩
  · exact Row.base_le (own_grown hoV (by omega) gf) hz1
  · exact hwV.grown gf hwV.size (fun k hk => by cases hk; exact Nat.le_refl _)
end Go.Proofs.Ytjjpifppdjpcnaa
