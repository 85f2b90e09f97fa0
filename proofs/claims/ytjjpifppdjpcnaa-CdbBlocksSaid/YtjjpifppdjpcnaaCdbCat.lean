/-
  The library's Grow at nil and Concat of two, at rows of fields.
-/
import Derived.Test.YtjjpifppdjpcnaaCdbPut
namespace Go.Proofs.Ytjjpifppdjpcnaa
open Go.RowKit
set_option linter.unusedVariables false
set_option linter.unusedSimpArgs false
set_option maxRecDepth 100000

/-- A row of fields of the call's own. -/
def OwF (w : World) (base : Nat) (A : Option Addr) (n c : Nat) (xs : List Value) : Prop := Row w base 96 2 A n c xs
theorem field_info : (Try.prog.info? 96).map (fun i => (i.zero, i.size, i.bytes)) = some (some (.agg #[.int .i64 0, .int .i64 0]), 2, 16) := by kernel_rfl

theorem run_append_mkF {w : World} {ty : TypeId} {m : Nat} (hm : 0 < m) (hb : m ≤ 1000000) :
    ∃ c' w', (Builtin.append_ #[97, 3] ty #[.slice none 0 0, .int .i64 (m : Int)]).run Try.prog w = .ok (.slice (some ⟨w.heap.size, 0, none⟩) m c') w' ∧ OwF w' w.heap.size (some ⟨w.heap.size, 0, none⟩) m c' (List.replicate (m * 2) (.int .i64 0)) ∧ w.grownBy w' none := by
  obtain ⟨i, hi, hz0, hz1, hz2⟩ : ∃ i, Try.prog.info? 96 = some i ∧ i.zero = some (.agg #[.int .i64 0, .int .i64 0]) ∧ i.size = 2 ∧ i.bytes = 16 := by
    have h := field_info
    cases hh : Try.prog.info? 96 with
    | none => rw [hh] at h; cases h
    | some i => rw [hh] at h; exact ⟨i, rfl, by simpa using h⟩
  have hwr : IntKind.i64.wrap (m : Int) = (m : Int) := by rw [IntKind.wrap_i64]; omega
  have hm0 : ¬ ((m : Int) < 0) := by omega
  have hmb : ¬ ((281474976710656 : Int) < (m : Int) * 16) := by omega
  have hmne : ¬ m = 0 := by omega
  have h63' : ¬ (9223372036854775807 < (m : Int)) := by omega
  have hroom : ¬ m ≤ 0 := by omega
  have h48' : ¬ (281474976710656 < Builtin.nextslicecap m 0 * 16) := by have := growslice_fits (old := 0) (need := m) (bytes := 16) (by omega) (by omega); omega
  have hge := grownCap_ge w m 0 96
  have hcm : grownCap w m 0 96 ≤ maxLen := grownCap_le_maxLen w m 0 96 (by simp only [maxLen]; omega)
  have hzc : ∀ k, Builtin.zeroCells (Value.cells (.agg #[.int .i64 0, .int .i64 0])) k = (List.replicate (k * 2) (Value.int .i64 0)).toArray := fun k => by
    apply Array.ext_getElem?
    intro j
    have hs : (Value.cells (.agg #[.int .i64 0, .int .i64 0])).size = 2 := rfl
    have hg : ∀ q, q < 2 → (Value.cells (.agg #[.int .i64 0, .int .i64 0]))[q]! = Value.int .i64 0 := fun q hq => by
      match q, hq with
      | 0, _ => rfl
      | 1, _ => rfl
    simp only [Builtin.zeroCells, hs]
    rw [Array.getElem?_map, Array.getElem?_range, List.getElem?_toArray, List.getElem?_replicate]
    split
    · simp [hg _ (Nat.mod_lt j (by decide : 0 < 2))]
    · rfl
  have hold : (Builtin.firstCells 2 0 (.slice none 0 0)).run Try.prog w.drew = .ok #[] w.drew := by simp [Builtin.firstCells]
  refine ⟨grownCap w m 0 96, w.drew.alloc (.cells ((List.replicate (m * 2) (Value.int .i64 0)).toArray ++ (List.replicate ((grownCap w m 0 96 - m) * 2) (Value.int .i64 0)).toArray) 96), ?_, ?_, ?_⟩
  · simp [Builtin.append_, run_underlying Try.underlying97, run_underlying Try.underlying3, sizeOf, typeInfo, zeroValue, hi, hz0, hz1, hz2, asInt, asIntOf, hwr, hm0, hmb, hroom, h63', h48', hmne, Question.forced, hold, newRow, grownCap, hzc]
    intro h
    omega
  · refine ⟨by simp, hge, hcm, fun _ => ⟨w.heap.size, _, rfl, Nat.le_refl _, Blk.new w.drew _ _, ?_, ?_⟩⟩
    · simp; omega
    · rw [Array.toList_append, List.take_append_of_le_length (by simp), List.take_of_length_le (by simp)]
  · exact ⟨rfl, rfl, rfl, by simp, fun k hk _ => Below.heap_alloc w.drew _ k hk⟩
theorem wpList_append_mkF {ops : Array Oper} {rest : List Oper} {o : Oper} {a : Act} {Q : Exit → Act → World → Prop} {w : World} (hgd : o.guard = none) (s x : Operand)
    (ho : o.op = .call { callee := .builtin .append, args := #[s, x], argTypes := #[97, 3] })
    (hs : a.eval s = .slice none 0 0) {m : Nat} (hx : a.eval x = .int .i64 (m : Int)) (hm : 0 < m) (hb : m ≤ 1000000)
    (h : ∀ c' w', OwF w' w.heap.size (some ⟨w.heap.size, 0, none⟩) m c' (List.replicate (m * 2) (.int .i64 0)) → Below w.heap.size w w' → wpList Try.prog ops Q rest (a.put o.dst (.slice (some ⟨w.heap.size, 0, none⟩) m c')) w') :
    wpList Try.prog ops Q (o :: rest) a w := by
  refine wpList_plain hgd fun K hK => ?_
  obtain ⟨c', w', hrun, h2, h3⟩ := run_append_mkF (w := w) (ty := o.type) hm hb
  unfold Oper.wp execOp
  simp only [ho, resolve, invoke, builtin, Sem.run_bind, Sem.run_pure, Result.andThen_ok, List.map_toArray, List.map_cons, List.map_nil, hs, hx, hrun]
  exact hK _ _ (h c' w' h2 ⟨h3.os, h3.tape, h3.output, h3.size, fun k hk => h3.block k hk (by simp)⟩)
theorem growNilF_c (w : World) :
    Calls Try.prog 67 #[.slice none 0 0, .int .i64 9] w fun e w' => ∃ A' c', e = .returned (.slice A' 0 c') ∧ OwF w' w.heap.size A' 0 c' [] ∧ Below w.heap.size w w' := by
  go_enter Try.func67, Try.ntmps67
  go_wp2_with (at_builtin; refine wpList_append_mkF (m := 9) rfl (.tmp 20) (.tmp 21) rfl rfl rfl (by omega) (by omega) ?_; intro c1 w1 h1 hb1; have hle1 : 9 ≤ c1 := h1.2.1; have hcp1 : c1 ≤ 9223372036854775807 := h1.2.2.1)
  go_ret
  refine ⟨_, c1, rfl, ?_, hb1⟩
  have := Row.trim h1 (k := 0) (Nat.zero_le _)
  rw [Nat.zero_mul, List.take_zero] at this
  exact this

set_option maxHeartbeats 2000000 in
/-- Concat of a row of four fields and a row of five. -/
theorem concatF_c {w : World} {B : Nat} {A : Option Addr} {A1 A2 : Option Addr} {c c1 c2 : Nat} {xs ys : List Value} (ha : Sl w B 1 A 2 c [.slice A1 4 c1, .slice A2 5 c2]) (h1 : Sl w B 2 A1 4 c1 xs) (h2 : Sl w B 2 A2 5 c2 ys) (o1 : ∀ u ∈ xs, u.oneCell' = true) (o2 : ∀ u ∈ ys, u.oneCell' = true) (hB : B ≤ w.heap.size) :
    Calls Try.prog 54 #[.slice A 2 c] w fun e w' => ∃ A' c', e = .returned (.slice A' 9 c') ∧ OwF w' w.heap.size A' 9 c' (xs ++ ys) ∧ Below w.heap.size w w' := by
  obtain ⟨b, off, rfl, hb, hj⟩ := ha.at_ (by have := ha.2.1; omega)
  have k0 := hj 0 _ rfl
  have k1 := hj 1 _ rfl
  rw [Nat.add_zero] at k0
  have hcm : c ≤ 9223372036854775807 := ha.2.2.1
  have hnc : 2 ≤ c := ha.2.1
  obtain ⟨i, hi, hz0, hz1, hz2⟩ : ∃ i, Try.prog.info? 96 = some i ∧ i.zero = some (.agg #[.int .i64 0, .int .i64 0]) ∧ i.size = 2 ∧ i.bytes = 16 := by
    have h := field_info
    cases hh : Try.prog.info? 96 with
    | none => rw [hh] at h; cases h
    | some i => rw [hh] at h; exact ⟨i, rfl, by simpa using h⟩
  have H1 := Lib.hid h1
  have H2 := Lib.hid h2
  have hbw : b < w.heap.size := Nat.lt_of_lt_of_le hb hB
  clear ha hj h1 h2
  go_enter Try.func54, Try.ntmps54
  go_wp2_with fail
  refine wp_loop_rounds 3 ?_
  rw [rounds_succ]
  go_wp2_with fail
  rw [rounds_succ]
  go_wp2_with fail
  rw [rounds_succ]
  go_wp2_with (go_at_call 67; refine (growNilF_c w).mono ?_; rintro e w1 ⟨A3, c3, rfl, h3, hb1⟩; have hz1' := hb1.size; have e0 := (hb1.cell (p := ⟨b, off, none⟩) hbw).trans k0; have e1 := (hb1.cell (p := ⟨b, off + 1, none⟩) hbw).trans k1)
  refine wp_loop_rounds 3 ?_
  rw [rounds_succ]
  go_wp2_with (at_builtin; refine wpList_append_row rfl (.tmp 31) (.tmp 32) _ rfl Try.underlying97 hi hz0 hz1 hz2 rfl rfl h3 rfl (H1.out.below (hb1.mono hB)) o1 (by omega) (by simp only [maxLen]; omega) hz1' ?_; intro A4 c4 w4 h4 q4; have hb4 := q4.below h3 hb1 (Nat.le_refl _) hz1'; have hz4 := hb4.size; have f1 := (hb4.cell (p := ⟨b, off + 1, none⟩) hbw).trans k1)
  rw [rounds_succ]
  go_wp2_with (at_builtin; refine wpList_append_row rfl (.tmp 31) (.tmp 32) _ rfl Try.underlying97 hi hz0 hz1 hz2 rfl rfl h4 rfl (H2.out.below (hb4.mono hB)) o2 (by omega) (by simp only [maxLen]; omega) hz4 ?_; intro A5 c5 w5 h5 q5; have hb5 := q5.below h4 hb4 (Nat.le_refl _) hz4)
  rw [rounds_succ]
  go_wp2_with fail
  go_ret
  exact ⟨A5, c5, rfl, h5, hb5⟩
end Go.Proofs.Ytjjpifppdjpcnaa
