/-
  pdu.Encode, and the reference's.
-/
import Derived.Test.YtjjpifppdjpcnaaRowb
import Derived.Test.YtjjpifppdjpcnaaNumber
namespace Go.Proofs.Ytjjpifppdjpcnaa
open Go.RowKit
set_option linter.unusedVariables false
set_option linter.unusedSimpArgs false
set_option maxRecDepth 100000

/-- A frame in form; its bytes. -/
def okF (kind n code : Int) (m : Nat) : Prop := 1 ≤ kind ∧ kind ≤ 8 ∧ 0 ≤ n ∧ n ≤ 4294967295 ∧ 0 ≤ code ∧ code ≤ 255 ∧ m ≤ 4096
instance (kind n code : Int) (m : Nat) : Decidable (okF kind n code m) := by unfold okF; infer_instance
def numsF (kind n code : Int) : List UInt8 := numB kind 1 1 ++ numB n 4 4 ++ numB code 1 1
def frB (kind n code : Int) (ds : List UInt8) : List UInt8 := numsF kind n code ++ (head2 ds.length ++ ds)

theorem okPut_one {x : Int} : okPut 1 x ↔ 0 ≤ x ∧ x ≤ 255 := by
  unfold okPut sz
  simp
  omega
theorem okPut_four {x : Int} : okPut 4 x ↔ 0 ≤ x ∧ x ≤ 4294967295 := by
  unfold okPut sz
  simp
  omega

theorem wpList_store_whole {P : Program} {ops : Array Oper} {rest : List Oper} {o : Oper} {a : Act} {Q : Exit → Act → World → Prop} {w : World} (hw : Region.wanted o (yielded ops a.tmps) = true) (T : TypeId) (p x : Operand) (ho : o.op = .store T p x) (g : Nat) (hp : a.eval p = .pointer (some ⟨g, 0, none⟩)) (vs : List Value) (hx : a.eval x = .agg vs.toArray) {n : Nat} (hT : AggT P T n) (hn : vs.length = n)
    (t : TypeId) (cur : Array Value) (hb : Blk w g t cur) (hc : cur.size = n) (h1 : ∀ v ∈ vs, v.oneCell' = true)
    (h : ∀ w', Blk w' g t vs.toArray → w.grownBy w' (some g) → w'.heap.size = w.heap.size → wpList P ops Q rest (a.put o.dst undef) w') : wpList P ops Q (o :: rest) a w :=
  wpList_store_agg hw T p x ho g 0 hp vs hx hT hn t cur hb (by rw [hn, hc]; omega) h1 fun w' h1 h2 h3 => h w' (by rw [splice_whole cur _ (by rw [hn, hc])] at h1; exact h1) h2 h3
theorem agg22 : AggT Try.prog 77 2 := ⟨⟨_, Try.underlying77, rfl⟩, by kernel_rfl⟩
theorem zero22 : (Try.prog.info? 77).bind (·.zero) = some (.agg #[.int .i64 0, .int .i64 0]) := by kernel_rfl

set_option maxHeartbeats 2000000 in
theorem encode_ok {w : World} {B : Nat} {A : Option Addr} {m c : Nat} {ds : List UInt8} (kind n code : Int) (hd : SlB w B A m c ds) (hB : B ≤ w.heap.size) (h : okF kind n code m) :
    Calls Try.prog 13 #[.agg #[.int .i64 kind, .int .i64 n, .int .i64 code, .slice A m c]] w fun e w' => ∃ A' c', e = .returned (.tuple #[.slice A' (8 + m) c', .nilIface]) ∧ OwB w' w.heap.size A' (8 + m) c' (frB kind n code ds) ∧ Below w.heap.size w w' := by
  obtain ⟨h1, h2, h3, h4, h5, h6, h7⟩ := h
  have hm : (m : Int) ≤ 4096 := by omega
  obtain ⟨g1, hg1⟩ : ∃ g, g = w.heap.size := ⟨_, rfl⟩
  obtain ⟨v, hv⟩ : ∃ v, v = w.alloc (.cells #[.int .i64 kind, .int .i64 n, .int .i64 code, .slice A m c] 24) := ⟨_, rfl⟩
  have b1 : Blk v g1 24 #[.int .i64 kind, .int .i64 n, .int .i64 code, .slice A m c] := by rw [hv, hg1]; exact Blk.new _ _ _
  have hbv : Below w.heap.size w v := by rw [hv]; exact below_alloc _ _
  have hz := hbv.size
  have d0 : v.cell? ⟨g1, 0, none⟩ = some (.int .i64 kind) := by rw [b1.cell]; rfl
  have d1 : v.cell? ⟨g1, 1, none⟩ = some (.int .i64 n) := by rw [b1.cell]; rfl
  have d2 : v.cell? ⟨g1, 2, none⟩ = some (.int .i64 code) := by rw [b1.cell]; rfl
  have d3 : v.cell? ⟨g1, 3, none⟩ = some (.slice A m c) := by rw [b1.cell]; rfl
  have HD := Lib.hid (hd.below (hbv.mono hB))
  have HV := Lib.hid hv
  have HG := Lib.hid hg1
  have HL := Lib.hid hd.len
  have hgv := b1.lt
  clear hv hg1 hd
  go_enter Try.func13, Try.ntmps13
  go_wp2_with fail
  rw [← HV.out, ← HG.out]
  go_wp2_with fail
  obtain ⟨va, hva⟩ : ∃ va, va = v.alloc (.cells #[.int .i64 1, .int .i64 kind, .int .i64 4, .int .i64 n, .int .i64 1, .int .i64 code] 77) := ⟨_, rfl⟩
  have hzv : v.heap.size = g1 + 1 := by rw [HV.out, HG.out]; simp
  have ba : Blk va (g1 + 1) 77 #[.int .i64 1, .int .i64 kind, .int .i64 4, .int .i64 n, .int .i64 1, .int .i64 code] := by rw [hva, ← hzv]; exact Blk.new _ _ _
  have hva1 : Below v.heap.size v va := by rw [hva]; exact below_alloc _ _
  have hza := hva1.size
  have HVA := Lib.hid hva
  have HBA := Lib.hid ba
  clear hva ba
  rw [← HVA.out]
  have hq0 := Below.refl va.heap.size va
  have s0 : SlB va va.heap.size none 0 0 [] := SlB.nil _ _ _
  refine wp_loop_rounds 4 ?_
  rw [rounds_succ]
  have HB0 := Lib.hid (HBA.out.below hq0 HBA.out.lt)
  have bn0 := Blk.new va 77 #[.int .i64 0, .int .i64 0]
  go_wp2_with (first
    | ((with_reducible show wpList _ _ _ (Oper.mk _ (Op.load 77 (.tmp 36)) _ _ _ _ :: _) _ _); refine wpList_load_agg rfl 77 (.tmp 36) rfl (g1 + 1) 0 rfl #[.int .i64 1, .int .i64 kind] agg22 rfl (fun j v hv => by rw [HB0.out.cell]; revert hv; match j with | 0 => exact id | 1 => exact id | _ + 2 => simp) ?_)
    | ((with_reducible show wpList _ _ _ (Oper.mk _ (Op.alloc 77) _ _ _ _ :: _) _ _); refine wpList_alloc_agg rfl 77 rfl #[.int .i64 0, .int .i64 0] zero22 ?_)
    | ((with_reducible show wpList _ _ _ (Oper.mk none (Op.store 77 _ _) _ _ _ _ :: _) _ _); refine wpList_store_whole rfl 77 (.tmp 6) (.tmp 37) rfl va.heap.size rfl [.int .i64 1, .int .i64 kind] rfl agg22 rfl _ _ bn0 rfl (by simp [Value.oneCell']) ?_; intro vb0 bb gb sb; have hab0 : Below va.heap.size va vb0 := (below_alloc _ _).grown gb (by simp) (fun k hk => by cases hk; exact Nat.le_refl _); have e0 : vb0.cell? ⟨va.heap.size, 0, none⟩ = some (.int .i64 1) := (by rw [bb.cell]; rfl); have e1 : vb0.cell? ⟨va.heap.size, 1, none⟩ = some (.int .i64 kind) := (by rw [bb.cell]; rfl); clear gb sb bb)
    | (go_at_call 40; refine (put_good (s0.below hab0) hab0.size (by omega) (k := 1) kind (WalkArith.wf_i64 (by omega)) (okPut_one.2 ⟨by omega, by omega⟩)).mono ?_; rintro e w1 ⟨A1, c1, rfl, ho1, hb1⟩; have hq1 := hq0.trans ((hab0.trans (hb1.mono hab0.size)).mono hq0.size); have s1 := ho1.sl))
  rw [rounds_succ]
  have HB1 := Lib.hid (HBA.out.below hq1 HBA.out.lt)
  have bn1 := Blk.new w1 77 #[.int .i64 0, .int .i64 0]
  go_wp2_with (first
    | ((with_reducible show wpList _ _ _ (Oper.mk _ (Op.load 77 (.tmp 36)) _ _ _ _ :: _) _ _); refine wpList_load_agg rfl 77 (.tmp 36) rfl (g1 + 1) 2 rfl #[.int .i64 4, .int .i64 n] agg22 rfl (fun j v hv => by rw [HB1.out.cell]; revert hv; match j with | 0 => exact id | 1 => exact id | _ + 2 => simp) ?_)
    | ((with_reducible show wpList _ _ _ (Oper.mk _ (Op.alloc 77) _ _ _ _ :: _) _ _); refine wpList_alloc_agg rfl 77 rfl #[.int .i64 0, .int .i64 0] zero22 ?_)
    | ((with_reducible show wpList _ _ _ (Oper.mk none (Op.store 77 _ _) _ _ _ _ :: _) _ _); refine wpList_store_whole rfl 77 (.tmp 6) (.tmp 37) rfl w1.heap.size rfl [.int .i64 4, .int .i64 n] rfl agg22 rfl _ _ bn1 rfl (by simp [Value.oneCell']) ?_; intro vb1 bb gb sb; have hab1 : Below w1.heap.size w1 vb1 := (below_alloc _ _).grown gb (by simp) (fun k hk => by cases hk; exact Nat.le_refl _); have e0 : vb1.cell? ⟨w1.heap.size, 0, none⟩ = some (.int .i64 4) := (by rw [bb.cell]; rfl); have e1 : vb1.cell? ⟨w1.heap.size, 1, none⟩ = some (.int .i64 n) := (by rw [bb.cell]; rfl); clear gb sb bb)
    | (go_at_call 40; refine (put_good (s1.below hab1) hab1.size (by omega) (k := 4) n (WalkArith.wf_i64 (by omega)) (okPut_four.2 ⟨by omega, by omega⟩)).mono ?_; rintro e w2 ⟨A2, c2, rfl, ho2, hb2⟩; have hq2 := hq1.trans ((hab1.trans (hb2.mono hab1.size)).mono hq1.size); have s2 := ho2.sl))
  rw [rounds_succ]
  have HB2 := Lib.hid (HBA.out.below hq2 HBA.out.lt)
  have bn2 := Blk.new w2 77 #[.int .i64 0, .int .i64 0]
  go_wp2_with (first
    | ((with_reducible show wpList _ _ _ (Oper.mk _ (Op.load 77 (.tmp 36)) _ _ _ _ :: _) _ _); refine wpList_load_agg rfl 77 (.tmp 36) rfl (g1 + 1) 4 rfl #[.int .i64 1, .int .i64 code] agg22 rfl (fun j v hv => by rw [HB2.out.cell]; revert hv; match j with | 0 => exact id | 1 => exact id | _ + 2 => simp) ?_)
    | ((with_reducible show wpList _ _ _ (Oper.mk _ (Op.alloc 77) _ _ _ _ :: _) _ _); refine wpList_alloc_agg rfl 77 rfl #[.int .i64 0, .int .i64 0] zero22 ?_)
    | ((with_reducible show wpList _ _ _ (Oper.mk none (Op.store 77 _ _) _ _ _ _ :: _) _ _); refine wpList_store_whole rfl 77 (.tmp 6) (.tmp 37) rfl w2.heap.size rfl [.int .i64 1, .int .i64 code] rfl agg22 rfl _ _ bn2 rfl (by simp [Value.oneCell']) ?_; intro vb2 bb gb sb; have hab2 : Below w2.heap.size w2 vb2 := (below_alloc _ _).grown gb (by simp) (fun k hk => by cases hk; exact Nat.le_refl _); have e0 : vb2.cell? ⟨w2.heap.size, 0, none⟩ = some (.int .i64 1) := (by rw [bb.cell]; rfl); have e1 : vb2.cell? ⟨w2.heap.size, 1, none⟩ = some (.int .i64 code) := (by rw [bb.cell]; rfl); clear gb sb bb)
    | (go_at_call 40; refine (put_good (s2.below hab2) hab2.size (by omega) (k := 1) code (WalkArith.wf_i64 (by omega)) (okPut_one.2 ⟨by omega, by omega⟩)).mono ?_; rintro e w3 ⟨A3, c3, rfl, ho3, hb3⟩; have hq3 := hq2.trans ((hab2.trans (hb3.mono hab2.size)).mono hq2.size); have s3 := ho3.sl))
  rw [rounds_succ]
  have hw3 := hva1.trans (hq3.mono hza)
  have d3w := (hw3.cell (p := ⟨g1, 3, none⟩) hgv).trans d3
  go_wp2_with (go_at_call 41; refine (row_ok s3 (Nat.le_refl _) (HD.out.below (hw3.mono (Nat.le_trans hB hz))) (Nat.le_trans hB (Nat.le_trans hz hw3.size)) (by omega) (by omega)).mono ?_; rintro e w4 ⟨A4, c4, rfl, ho4, hb4⟩)
  go_ret2
  refine ⟨A4, c4, by rw [show 0 + 1 + 4 + 1 + 2 + m = 8 + m by omega]; rfl, ?_, hbv.trans ((hw3.trans (hb4.mono hw3.size)).mono hz)⟩
  have hfin := Row.base_le ho4 (b' := w.heap.size) (Nat.le_trans hz hw3.size)
  rw [show 0 + 1 + 4 + 1 + 2 + m = 8 + m by omega] at hfin
  rw [frB, numsF, HL.out]
  exact hfin

set_option maxHeartbeats 2000000 in
theorem encode_bad_n {w : World} {B : Nat} {A : Option Addr} {m c : Nat} {ds : List UInt8} (kind n code : Int) (hd : SlB w B A m c ds) (hB : B ≤ w.heap.size) (h1 : 1 ≤ kind) (h2 : kind ≤ 8) (h7 : m ≤ 4096) (hbad : ¬ (0 ≤ n ∧ n ≤ 4294967295)) :
    Calls Try.prog 13 #[.agg #[.int .i64 kind, .int .i64 n, .int .i64 code, .slice A m c]] w fun e w' => e = .returned (.tuple #[.slice none 0 0, .iface 35 (.int .i64 10)]) ∧ Below w.heap.size w w' := by
  have hm : (m : Int) ≤ 4096 := by omega
  obtain ⟨g1, hg1⟩ : ∃ g, g = w.heap.size := ⟨_, rfl⟩
  obtain ⟨v, hv⟩ : ∃ v, v = w.alloc (.cells #[.int .i64 kind, .int .i64 n, .int .i64 code, .slice A m c] 24) := ⟨_, rfl⟩
  have b1 : Blk v g1 24 #[.int .i64 kind, .int .i64 n, .int .i64 code, .slice A m c] := by rw [hv, hg1]; exact Blk.new _ _ _
  have hbv : Below w.heap.size w v := by rw [hv]; exact below_alloc _ _
  have hz := hbv.size
  have d0 : v.cell? ⟨g1, 0, none⟩ = some (.int .i64 kind) := by rw [b1.cell]; rfl
  have d1 : v.cell? ⟨g1, 1, none⟩ = some (.int .i64 n) := by rw [b1.cell]; rfl
  have d2 : v.cell? ⟨g1, 2, none⟩ = some (.int .i64 code) := by rw [b1.cell]; rfl
  have d3 : v.cell? ⟨g1, 3, none⟩ = some (.slice A m c) := by rw [b1.cell]; rfl
  have HD := Lib.hid (hd.below (hbv.mono hB))
  have HV := Lib.hid hv
  have HG := Lib.hid hg1
  have HL := Lib.hid hd.len
  have hgv := b1.lt
  clear hv hg1 hd
  go_enter Try.func13, Try.ntmps13
  go_wp2_with fail
  rw [← HV.out, ← HG.out]
  go_wp2_with fail
  obtain ⟨va, hva⟩ : ∃ va, va = v.alloc (.cells #[.int .i64 1, .int .i64 kind, .int .i64 4, .int .i64 n, .int .i64 1, .int .i64 code] 77) := ⟨_, rfl⟩
  have hzv : v.heap.size = g1 + 1 := by rw [HV.out, HG.out]; simp
  have ba : Blk va (g1 + 1) 77 #[.int .i64 1, .int .i64 kind, .int .i64 4, .int .i64 n, .int .i64 1, .int .i64 code] := by rw [hva, ← hzv]; exact Blk.new _ _ _
  have hva1 : Below v.heap.size v va := by rw [hva]; exact below_alloc _ _
  have hza := hva1.size
  have HVA := Lib.hid hva
  have HBA := Lib.hid ba
  clear hva ba
  rw [← HVA.out]
  have hq0 := Below.refl va.heap.size va
  have s0 : SlB va va.heap.size none 0 0 [] := SlB.nil _ _ _
  refine wp_loop_rounds 4 ?_
  rw [rounds_succ]
  have HB0 := Lib.hid (HBA.out.below hq0 HBA.out.lt)
  have bn0 := Blk.new va 77 #[.int .i64 0, .int .i64 0]
  go_wp2_with (first
    | ((with_reducible show wpList _ _ _ (Oper.mk _ (Op.load 77 (.tmp 36)) _ _ _ _ :: _) _ _); refine wpList_load_agg rfl 77 (.tmp 36) rfl (g1 + 1) 0 rfl #[.int .i64 1, .int .i64 kind] agg22 rfl (fun j v hv => by rw [HB0.out.cell]; revert hv; match j with | 0 => exact id | 1 => exact id | _ + 2 => simp) ?_)
    | ((with_reducible show wpList _ _ _ (Oper.mk _ (Op.alloc 77) _ _ _ _ :: _) _ _); refine wpList_alloc_agg rfl 77 rfl #[.int .i64 0, .int .i64 0] zero22 ?_)
    | ((with_reducible show wpList _ _ _ (Oper.mk none (Op.store 77 _ _) _ _ _ _ :: _) _ _); refine wpList_store_whole rfl 77 (.tmp 6) (.tmp 37) rfl va.heap.size rfl [.int .i64 1, .int .i64 kind] rfl agg22 rfl _ _ bn0 rfl (by simp [Value.oneCell']) ?_; intro vb0 bb gb sb; have hab0 : Below va.heap.size va vb0 := (below_alloc _ _).grown gb (by simp) (fun k hk => by cases hk; exact Nat.le_refl _); have e0 : vb0.cell? ⟨va.heap.size, 0, none⟩ = some (.int .i64 1) := (by rw [bb.cell]; rfl); have e1 : vb0.cell? ⟨va.heap.size, 1, none⟩ = some (.int .i64 kind) := (by rw [bb.cell]; rfl); clear gb sb bb)
    | (go_at_call 40; refine (put_good (s0.below hab0) hab0.size (by omega) (k := 1) kind (WalkArith.wf_i64 (by omega)) (okPut_one.2 ⟨by omega, by omega⟩)).mono ?_; rintro e w1 ⟨A1, c1, rfl, ho1, hb1⟩; have hq1 := hq0.trans ((hab0.trans (hb1.mono hab0.size)).mono hq0.size); have s1 := ho1.sl))
  rw [rounds_succ]
  have HB1 := Lib.hid (HBA.out.below hq1 HBA.out.lt)
  have bn1 := Blk.new w1 77 #[.int .i64 0, .int .i64 0]
  go_wp2_with (first
    | ((with_reducible show wpList _ _ _ (Oper.mk _ (Op.load 77 (.tmp 36)) _ _ _ _ :: _) _ _); refine wpList_load_agg rfl 77 (.tmp 36) rfl (g1 + 1) 2 rfl #[.int .i64 4, .int .i64 n] agg22 rfl (fun j v hv => by rw [HB1.out.cell]; revert hv; match j with | 0 => exact id | 1 => exact id | _ + 2 => simp) ?_)
    | ((with_reducible show wpList _ _ _ (Oper.mk _ (Op.alloc 77) _ _ _ _ :: _) _ _); refine wpList_alloc_agg rfl 77 rfl #[.int .i64 0, .int .i64 0] zero22 ?_)
    | ((with_reducible show wpList _ _ _ (Oper.mk none (Op.store 77 _ _) _ _ _ _ :: _) _ _); refine wpList_store_whole rfl 77 (.tmp 6) (.tmp 37) rfl w1.heap.size rfl [.int .i64 4, .int .i64 n] rfl agg22 rfl _ _ bn1 rfl (by simp [Value.oneCell']) ?_; intro vb1 bb gb sb; have hab1 : Below w1.heap.size w1 vb1 := (below_alloc _ _).grown gb (by simp) (fun k hk => by cases hk; exact Nat.le_refl _); have e0 : vb1.cell? ⟨w1.heap.size, 0, none⟩ = some (.int .i64 4) := (by rw [bb.cell]; rfl); have e1 : vb1.cell? ⟨w1.heap.size, 1, none⟩ = some (.int .i64 n) := (by rw [bb.cell]; rfl); clear gb sb bb)
    | (go_at_call 40; refine (put_bad n (fun h => hbad (okPut_four.1 h))).mono ?_; rintro e w' ⟨rfl, rfl⟩))
  go_ret2
  exact ⟨rfl, hbv.trans ((hva1.trans ((hq1.trans (hab1.mono hq1.size)).mono hza)).mono hz)⟩

set_option maxHeartbeats 2000000 in
theorem encode_bad_c {w : World} {B : Nat} {A : Option Addr} {m c : Nat} {ds : List UInt8} (kind n code : Int) (hd : SlB w B A m c ds) (hB : B ≤ w.heap.size) (h1 : 1 ≤ kind) (h2 : kind ≤ 8) (h3 : 0 ≤ n) (h4 : n ≤ 4294967295) (h7 : m ≤ 4096) (hbad : ¬ (0 ≤ code ∧ code ≤ 255)) :
    Calls Try.prog 13 #[.agg #[.int .i64 kind, .int .i64 n, .int .i64 code, .slice A m c]] w fun e w' => e = .returned (.tuple #[.slice none 0 0, .iface 35 (.int .i64 10)]) ∧ Below w.heap.size w w' := by
  have hm : (m : Int) ≤ 4096 := by omega
  obtain ⟨g1, hg1⟩ : ∃ g, g = w.heap.size := ⟨_, rfl⟩
  obtain ⟨v, hv⟩ : ∃ v, v = w.alloc (.cells #[.int .i64 kind, .int .i64 n, .int .i64 code, .slice A m c] 24) := ⟨_, rfl⟩
  have b1 : Blk v g1 24 #[.int .i64 kind, .int .i64 n, .int .i64 code, .slice A m c] := by rw [hv, hg1]; exact Blk.new _ _ _
  have hbv : Below w.heap.size w v := by rw [hv]; exact below_alloc _ _
  have hz := hbv.size
  have d0 : v.cell? ⟨g1, 0, none⟩ = some (.int .i64 kind) := by rw [b1.cell]; rfl
  have d1 : v.cell? ⟨g1, 1, none⟩ = some (.int .i64 n) := by rw [b1.cell]; rfl
  have d2 : v.cell? ⟨g1, 2, none⟩ = some (.int .i64 code) := by rw [b1.cell]; rfl
  have d3 : v.cell? ⟨g1, 3, none⟩ = some (.slice A m c) := by rw [b1.cell]; rfl
  have HD := Lib.hid (hd.below (hbv.mono hB))
  have HV := Lib.hid hv
  have HG := Lib.hid hg1
  have HL := Lib.hid hd.len
  have hgv := b1.lt
  clear hv hg1 hd
  go_enter Try.func13, Try.ntmps13
  go_wp2_with fail
  rw [← HV.out, ← HG.out]
  go_wp2_with fail
  obtain ⟨va, hva⟩ : ∃ va, va = v.alloc (.cells #[.int .i64 1, .int .i64 kind, .int .i64 4, .int .i64 n, .int .i64 1, .int .i64 code] 77) := ⟨_, rfl⟩
  have hzv : v.heap.size = g1 + 1 := by rw [HV.out, HG.out]; simp
  have ba : Blk va (g1 + 1) 77 #[.int .i64 1, .int .i64 kind, .int .i64 4, .int .i64 n, .int .i64 1, .int .i64 code] := by rw [hva, ← hzv]; exact Blk.new _ _ _
  have hva1 : Below v.heap.size v va := by rw [hva]; exact below_alloc _ _
  have hza := hva1.size
  have HVA := Lib.hid hva
  have HBA := Lib.hid ba
  clear hva ba
  rw [← HVA.out]
  have hq0 := Below.refl va.heap.size va
  have s0 : SlB va va.heap.size none 0 0 [] := SlB.nil _ _ _
  refine wp_loop_rounds 4 ?_
  rw [rounds_succ]
  have HB0 := Lib.hid (HBA.out.below hq0 HBA.out.lt)
  have bn0 := Blk.new va 77 #[.int .i64 0, .int .i64 0]
  go_wp2_with (first
    | ((with_reducible show wpList _ _ _ (Oper.mk _ (Op.load 77 (.tmp 36)) _ _ _ _ :: _) _ _); refine wpList_load_agg rfl 77 (.tmp 36) rfl (g1 + 1) 0 rfl #[.int .i64 1, .int .i64 kind] agg22 rfl (fun j v hv => by rw [HB0.out.cell]; revert hv; match j with | 0 => exact id | 1 => exact id | _ + 2 => simp) ?_)
    | ((with_reducible show wpList _ _ _ (Oper.mk _ (Op.alloc 77) _ _ _ _ :: _) _ _); refine wpList_alloc_agg rfl 77 rfl #[.int .i64 0, .int .i64 0] zero22 ?_)
    | ((with_reducible show wpList _ _ _ (Oper.mk none (Op.store 77 _ _) _ _ _ _ :: _) _ _); refine wpList_store_whole rfl 77 (.tmp 6) (.tmp 37) rfl va.heap.size rfl [.int .i64 1, .int .i64 kind] rfl agg22 rfl _ _ bn0 rfl (by simp [Value.oneCell']) ?_; intro vb0 bb gb sb; have hab0 : Below va.heap.size va vb0 := (below_alloc _ _).grown gb (by simp) (fun k hk => by cases hk; exact Nat.le_refl _); have e0 : vb0.cell? ⟨va.heap.size, 0, none⟩ = some (.int .i64 1) := (by rw [bb.cell]; rfl); have e1 : vb0.cell? ⟨va.heap.size, 1, none⟩ = some (.int .i64 kind) := (by rw [bb.cell]; rfl); clear gb sb bb)
    | (go_at_call 40; refine (put_good (s0.below hab0) hab0.size (by omega) (k := 1) kind (WalkArith.wf_i64 (by omega)) (okPut_one.2 ⟨by omega, by omega⟩)).mono ?_; rintro e w1 ⟨A1, c1, rfl, ho1, hb1⟩; have hq1 := hq0.trans ((hab0.trans (hb1.mono hab0.size)).mono hq0.size); have s1 := ho1.sl))
  rw [rounds_succ]
  have HB1 := Lib.hid (HBA.out.below hq1 HBA.out.lt)
  have bn1 := Blk.new w1 77 #[.int .i64 0, .int .i64 0]
  go_wp2_with (first
    | ((with_reducible show wpList _ _ _ (Oper.mk _ (Op.load 77 (.tmp 36)) _ _ _ _ :: _) _ _); refine wpList_load_agg rfl 77 (.tmp 36) rfl (g1 + 1) 2 rfl #[.int .i64 4, .int .i64 n] agg22 rfl (fun j v hv => by rw [HB1.out.cell]; revert hv; match j with | 0 => exact id | 1 => exact id | _ + 2 => simp) ?_)
    | ((with_reducible show wpList _ _ _ (Oper.mk _ (Op.alloc 77) _ _ _ _ :: _) _ _); refine wpList_alloc_agg rfl 77 rfl #[.int .i64 0, .int .i64 0] zero22 ?_)
    | ((with_reducible show wpList _ _ _ (Oper.mk none (Op.store 77 _ _) _ _ _ _ :: _) _ _); refine wpList_store_whole rfl 77 (.tmp 6) (.tmp 37) rfl w1.heap.size rfl [.int .i64 4, .int .i64 n] rfl agg22 rfl _ _ bn1 rfl (by simp [Value.oneCell']) ?_; intro vb1 bb gb sb; have hab1 : Below w1.heap.size w1 vb1 := (below_alloc _ _).grown gb (by simp) (fun k hk => by cases hk; exact Nat.le_refl _); have e0 : vb1.cell? ⟨w1.heap.size, 0, none⟩ = some (.int .i64 4) := (by rw [bb.cell]; rfl); have e1 : vb1.cell? ⟨w1.heap.size, 1, none⟩ = some (.int .i64 n) := (by rw [bb.cell]; rfl); clear gb sb bb)
    | (go_at_call 40; refine (put_good (s1.below hab1) hab1.size (by omega) (k := 4) n (WalkArith.wf_i64 (by omega)) (okPut_four.2 ⟨by omega, by omega⟩)).mono ?_; rintro e w2 ⟨A2, c2, rfl, ho2, hb2⟩; have hq2 := hq1.trans ((hab1.trans (hb2.mono hab1.size)).mono hq1.size); have s2 := ho2.sl))
  rw [rounds_succ]
  have HB2 := Lib.hid (HBA.out.below hq2 HBA.out.lt)
  have bn2 := Blk.new w2 77 #[.int .i64 0, .int .i64 0]
  go_wp2_with (first
    | ((with_reducible show wpList _ _ _ (Oper.mk _ (Op.load 77 (.tmp 36)) _ _ _ _ :: _) _ _); refine wpList_load_agg rfl 77 (.tmp 36) rfl (g1 + 1) 4 rfl #[.int .i64 1, .int .i64 code] agg22 rfl (fun j v hv => by rw [HB2.out.cell]; revert hv; match j with | 0 => exact id | 1 => exact id | _ + 2 => simp) ?_)
    | ((with_reducible show wpList _ _ _ (Oper.mk _ (Op.alloc 77) _ _ _ _ :: _) _ _); refine wpList_alloc_agg rfl 77 rfl #[.int .i64 0, .int .i64 0] zero22 ?_)
    | ((with_reducible show wpList _ _ _ (Oper.mk none (Op.store 77 _ _) _ _ _ _ :: _) _ _); refine wpList_store_whole rfl 77 (.tmp 6) (.tmp 37) rfl w2.heap.size rfl [.int .i64 1, .int .i64 code] rfl agg22 rfl _ _ bn2 rfl (by simp [Value.oneCell']) ?_; intro vb2 bb gb sb; have hab2 : Below w2.heap.size w2 vb2 := (below_alloc _ _).grown gb (by simp) (fun k hk => by cases hk; exact Nat.le_refl _); have e0 : vb2.cell? ⟨w2.heap.size, 0, none⟩ = some (.int .i64 1) := (by rw [bb.cell]; rfl); have e1 : vb2.cell? ⟨w2.heap.size, 1, none⟩ = some (.int .i64 code) := (by rw [bb.cell]; rfl); clear gb sb bb)
    | (go_at_call 40; refine (put_bad code (fun h => hbad (okPut_one.1 h))).mono ?_; rintro e w' ⟨rfl, rfl⟩))
  go_ret2
  exact ⟨rfl, hbv.trans ((hva1.trans ((hq2.trans (hab2.mono hq2.size)).mono hza)).mono hz)⟩

set_option maxHeartbeats 2000000 in
theorem encode_bad_ka {w : World} {B : Nat} {A : Option Addr} {m c : Nat} {ds : List UInt8} (kind n code : Int) (hd : SlB w B A m c ds) (hB : B ≤ w.heap.size) (h : kind < 1) :
    Calls Try.prog 13 #[.agg #[.int .i64 kind, .int .i64 n, .int .i64 code, .slice A m c]] w fun e w' => e = .returned (.tuple #[.slice none 0 0, .iface 35 (.int .i64 10)]) ∧ Below w.heap.size w w' := by
  obtain ⟨g1, hg1⟩ : ∃ g, g = w.heap.size := ⟨_, rfl⟩
  obtain ⟨v, hv⟩ : ∃ v, v = w.alloc (.cells #[.int .i64 kind, .int .i64 n, .int .i64 code, .slice A m c] 24) := ⟨_, rfl⟩
  have b1 : Blk v g1 24 #[.int .i64 kind, .int .i64 n, .int .i64 code, .slice A m c] := by rw [hv, hg1]; exact Blk.new _ _ _
  have hbv : Below w.heap.size w v := by rw [hv]; exact below_alloc _ _
  have hz := hbv.size
  have d0 : v.cell? ⟨g1, 0, none⟩ = some (.int .i64 kind) := by rw [b1.cell]; rfl
  have d1 : v.cell? ⟨g1, 1, none⟩ = some (.int .i64 n) := by rw [b1.cell]; rfl
  have d2 : v.cell? ⟨g1, 2, none⟩ = some (.int .i64 code) := by rw [b1.cell]; rfl
  have d3 : v.cell? ⟨g1, 3, none⟩ = some (.slice A m c) := by rw [b1.cell]; rfl
  have HD := Lib.hid (hd.below (hbv.mono hB))
  have HV := Lib.hid hv
  have HG := Lib.hid hg1
  have HL := Lib.hid hd.len
  have hgv := b1.lt
  clear hv hg1 hd
  go_enter Try.func13, Try.ntmps13
  go_wp2_with fail
  rw [← HV.out, ← HG.out]
  go_wp2_with fail
  go_ret2
  exact ⟨rfl, by rw [HG.out]; exact hbv⟩

set_option maxHeartbeats 2000000 in
theorem encode_bad_kb {w : World} {B : Nat} {A : Option Addr} {m c : Nat} {ds : List UInt8} (kind n code : Int) (hd : SlB w B A m c ds) (hB : B ≤ w.heap.size) (h : 8 < kind) :
    Calls Try.prog 13 #[.agg #[.int .i64 kind, .int .i64 n, .int .i64 code, .slice A m c]] w fun e w' => e = .returned (.tuple #[.slice none 0 0, .iface 35 (.int .i64 10)]) ∧ Below w.heap.size w w' := by
  obtain ⟨g1, hg1⟩ : ∃ g, g = w.heap.size := ⟨_, rfl⟩
  obtain ⟨v, hv⟩ : ∃ v, v = w.alloc (.cells #[.int .i64 kind, .int .i64 n, .int .i64 code, .slice A m c] 24) := ⟨_, rfl⟩
  have b1 : Blk v g1 24 #[.int .i64 kind, .int .i64 n, .int .i64 code, .slice A m c] := by rw [hv, hg1]; exact Blk.new _ _ _
  have hbv : Below w.heap.size w v := by rw [hv]; exact below_alloc _ _
  have hz := hbv.size
  have d0 : v.cell? ⟨g1, 0, none⟩ = some (.int .i64 kind) := by rw [b1.cell]; rfl
  have d1 : v.cell? ⟨g1, 1, none⟩ = some (.int .i64 n) := by rw [b1.cell]; rfl
  have d2 : v.cell? ⟨g1, 2, none⟩ = some (.int .i64 code) := by rw [b1.cell]; rfl
  have d3 : v.cell? ⟨g1, 3, none⟩ = some (.slice A m c) := by rw [b1.cell]; rfl
  have HD := Lib.hid (hd.below (hbv.mono hB))
  have HV := Lib.hid hv
  have HG := Lib.hid hg1
  have HL := Lib.hid hd.len
  have hgv := b1.lt
  clear hv hg1 hd
  go_enter Try.func13, Try.ntmps13
  go_wp2_with fail
  rw [← HV.out, ← HG.out]
  go_wp2_with fail
  go_ret2
  exact ⟨rfl, by rw [HG.out]; exact hbv⟩

set_option maxHeartbeats 2000000 in
theorem encode_bad_kd {w : World} {B : Nat} {A : Option Addr} {m c : Nat} {ds : List UInt8} (kind n code : Int) (hd : SlB w B A m c ds) (hB : B ≤ w.heap.size) (h1 : 1 ≤ kind) (h2 : kind ≤ 8) (h : 4096 < m) :
    Calls Try.prog 13 #[.agg #[.int .i64 kind, .int .i64 n, .int .i64 code, .slice A m c]] w fun e w' => e = .returned (.tuple #[.slice none 0 0, .iface 35 (.int .i64 10)]) ∧ Below w.heap.size w w' := by
  have hm : (4096 : Int) < (m : Int) := by omega
  obtain ⟨g1, hg1⟩ : ∃ g, g = w.heap.size := ⟨_, rfl⟩
  obtain ⟨v, hv⟩ : ∃ v, v = w.alloc (.cells #[.int .i64 kind, .int .i64 n, .int .i64 code, .slice A m c] 24) := ⟨_, rfl⟩
  have b1 : Blk v g1 24 #[.int .i64 kind, .int .i64 n, .int .i64 code, .slice A m c] := by rw [hv, hg1]; exact Blk.new _ _ _
  have hbv : Below w.heap.size w v := by rw [hv]; exact below_alloc _ _
  have hz := hbv.size
  have d0 : v.cell? ⟨g1, 0, none⟩ = some (.int .i64 kind) := by rw [b1.cell]; rfl
  have d1 : v.cell? ⟨g1, 1, none⟩ = some (.int .i64 n) := by rw [b1.cell]; rfl
  have d2 : v.cell? ⟨g1, 2, none⟩ = some (.int .i64 code) := by rw [b1.cell]; rfl
  have d3 : v.cell? ⟨g1, 3, none⟩ = some (.slice A m c) := by rw [b1.cell]; rfl
  have HD := Lib.hid (hd.below (hbv.mono hB))
  have HV := Lib.hid hv
  have HG := Lib.hid hg1
  have HL := Lib.hid hd.len
  have hgv := b1.lt
  clear hv hg1 hd
  go_enter Try.func13, Try.ntmps13
  go_wp2_with fail
  rw [← HV.out, ← HG.out]
  go_wp2_with fail
  go_ret2
  exact ⟨rfl, by rw [HG.out]; exact hbv⟩

theorem encode_bad {w : World} {B : Nat} {A : Option Addr} {m c : Nat} {ds : List UInt8} (kind n code : Int) (hd : SlB w B A m c ds) (hB : B ≤ w.heap.size) (h : ¬ okF kind n code m) :
    Calls Try.prog 13 #[.agg #[.int .i64 kind, .int .i64 n, .int .i64 code, .slice A m c]] w fun e w' => e = .returned (.tuple #[.slice none 0 0, .iface 35 (.int .i64 10)]) ∧ Below w.heap.size w w' := by
  by_cases hk : kind < 1 ∨ 8 < kind ∨ 4096 < m
  · by_cases ka : kind < 1
    · exact encode_bad_ka kind n code hd hB ka
    · by_cases kb : 8 < kind
      · exact encode_bad_kb kind n code hd hB kb
      · exact encode_bad_kd kind n code hd hB (by omega) (by omega) (by omega)
  · by_cases hn : 0 ≤ n ∧ n ≤ 4294967295
    · exact encode_bad_c kind n code hd hB (by omega) (by omega) hn.1 hn.2 (by omega) (fun hc => h ⟨by omega, by omega, hn.1, hn.2, hc.1, hc.2, by omega⟩)
    · exact encode_bad_n kind n code hd hB (by omega) (by omega) (by omega) hn

end Go.Proofs.Ytjjpifppdjpcnaa
