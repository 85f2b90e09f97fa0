/-
  The library's Grow at nil and Concat, at rows of digests.
-/
import Derived.Test.YtdifepfplfkfoaaSums
import Derived.Test.YtdifepfplfkfoaaDigB
namespace Go.Proofs.Ytdifepfplfkfoaa
open Go.RowKit
set_option linter.unusedVariables false
set_option linter.unusedSimpArgs false
set_option maxRecDepth 100000

theorem OwS.cap {w : World} {base n c : Nat} {A : Option Addr} {xs : List UInt8} (h : OwS w base A n c xs) : c ≤ 9223372036854775807 := by have := h.2.2.1; simpa [maxLen] using this
theorem OwS.le {w : World} {base n c : Nat} {A : Option Addr} {xs : List UInt8} (h : OwS w base A n c xs) : n ≤ c := h.2.1

theorem run_append_mkS {w : World} {ty : TypeId} {m : Nat} (hm : 0 < m) (hb : m ≤ 1000000) :
    ∃ c' w', (Builtin.append_ #[51, 3] ty #[.slice none 0 0, .int .i64 (m : Int)]).run Try.prog w = .ok (.slice (some ⟨w.heap.size, 0, none⟩) m c') w' ∧ OwS w' w.heap.size (some ⟨w.heap.size, 0, none⟩) m c' (List.replicate (m * 32) 0) ∧ w.grownBy w' none := by
  obtain ⟨i, hi, hz⟩ : ∃ i, Try.prog.info? 28 = some i ∧ (i.size, i.bytes) = (32, 32) := by
    have h := sums_info
    cases hh : Try.prog.info? 28 with
    | none => rw [hh] at h; cases h
    | some i => rw [hh] at h; exact ⟨i, rfl, by simpa using h⟩
  have hz0 := zero44
  rw [hi] at hz0
  simp only [Prod.mk.injEq] at hz
  obtain ⟨hz1, hz2⟩ := hz
  simp only [Option.bind_some] at hz0
  have hwr : IntKind.i64.wrap (m : Int) = (m : Int) := by rw [IntKind.wrap_i64]; omega
  have hm0 : ¬ ((m : Int) < 0) := by omega
  have hmb : ¬ ((281474976710656 : Int) < (m : Int) * 32) := by omega
  have hmne : ¬ m = 0 := by omega
  have h63' : ¬ (9223372036854775807 < (m : Int)) := by omega
  have hroom : ¬ m ≤ 0 := by omega
  have h48' : ¬ (281474976710656 < Builtin.nextslicecap m 0 * 32) := by have := growslice_fits (old := 0) (need := m) (bytes := 32) (by omega) (by omega); omega
  have hge := grownCap_ge w m 0 28
  have hcm : grownCap w m 0 28 ≤ maxLen := grownCap_le_maxLen w m 0 28 (by simp only [maxLen]; omega)
  have hzc : ∀ k, Builtin.zeroCells (Value.cells (.agg (arr8 (z8' 32)))) k = ((List.replicate (k * 32) (0 : UInt8)).map b8).toArray := fun k => by
    apply Array.ext_getElem?
    intro j
    have hs : (Value.cells (.agg (arr8 (z8' 32)))).size = 32 := by simp [Value.cells, size_arr8, len_z8']
    have hg : ∀ q, q < 32 → (Value.cells (.agg (arr8 (z8' 32))))[q]! = b8 0 := fun q hq => by
      have h1 : (Value.cells (.agg (arr8 (z8' 32))))[q]? = some (b8 0) := by
        show (arr8 (z8' 32))[q]? = _
        rw [arr8_get, z8', List.getElem?_replicate, if_pos hq]; rfl
      rw [getElem!_def, h1]
    simp only [Builtin.zeroCells, hs]
    rw [Array.getElem?_map, Array.getElem?_range, List.getElem?_toArray, List.getElem?_map, List.getElem?_replicate]
    split
    · simp [hg _ (Nat.mod_lt j (by decide : 0 < 32))]
    · rfl
  have hold : (Builtin.firstCells 32 0 (.slice none 0 0)).run Try.prog w.drew = .ok #[] w.drew := by simp [Builtin.firstCells]
  refine ⟨grownCap w m 0 28, w.drew.alloc (.cells (((List.replicate (m * 32) (0 : UInt8)).map b8).toArray ++ ((List.replicate ((grownCap w m 0 28 - m) * 32) (0 : UInt8)).map b8).toArray) 28), ?_, ?_, ?_⟩
  · simp [Builtin.append_, run_underlying Try.underlying51, run_underlying Try.underlying3, sizeOf, typeInfo, zeroValue, hi, hz0, hz1, hz2, asInt, asIntOf, hwr, hm0, hmb, hroom, h63', h48', hmne, Question.forced, hold, newRow, grownCap, hzc]
    intro h
    omega
  · refine ⟨by simp, hge, hcm, fun _ => ⟨w.heap.size, _, rfl, Nat.le_refl _, Blk.new w.drew _ _, ?_, ?_⟩⟩
    · simp; omega
    · rw [Array.toList_append, List.take_append_of_le_length (by simp), List.take_of_length_le (by simp)]
  · exact ⟨rfl, rfl, rfl, by simp, fun k hk _ => Below.heap_alloc w.drew _ k hk⟩

theorem wpList_append_mkS {ops : Array Oper} {rest : List Oper} {o : Oper} {a : Act} {Q : Exit → Act → World → Prop} {w : World} (hgd : o.guard = none) (s x : Operand)
    (ho : o.op = .call { callee := .builtin .append, args := #[s, x], argTypes := #[51, 3] })
    (hs : a.eval s = .slice none 0 0) {m : Nat} (hx : a.eval x = .int .i64 (m : Int)) (hm : 0 < m) (hb : m ≤ 1000000)
    (h : ∀ c' w', OwS w' w.heap.size (some ⟨w.heap.size, 0, none⟩) m c' (List.replicate (m * 32) 0) → Below w.heap.size w w' → wpList Try.prog ops Q rest (a.put o.dst (.slice (some ⟨w.heap.size, 0, none⟩) m c')) w') :
    wpList Try.prog ops Q (o :: rest) a w := by
  refine wpList_plain hgd fun K hK => ?_
  obtain ⟨c', w', hrun, h2, h3⟩ := run_append_mkS (w := w) (ty := o.type) hm hb
  unfold Oper.wp execOp
  simp only [ho, resolve, invoke, builtin, Sem.run_bind, Sem.run_pure, Result.andThen_ok, List.map_toArray, List.map_cons, List.map_nil, hs, hx, hrun]
  exact hK _ _ (h c' w' h2 ⟨h3.os, h3.tape, h3.output, h3.size, fun k hk => h3.block k hk (by simp)⟩)

theorem growNilS_c (k : Nat) (hk : k ≤ 1000000) (w : World) :
    Calls Try.prog 65 #[.slice none 0 0, .int .i64 (k : Int)] w fun e w' => ∃ A' c', e = .returned (.slice A' 0 c') ∧ OwS w' w.heap.size A' 0 c' [] ∧ k ≤ c' ∧ Below w.heap.size w w' := by
  have hn0 : OwS w w.heap.size none 0 0 [] := Row.nil _ _ _ _ _
  rcases Nat.eq_zero_or_pos k with h0 | h0
  · subst h0
    go_enter Try.func65, Try.ntmps65
    go_wp2_with fail
    go_ret
    exact ⟨none, 0, rfl, hn0, Nat.le_refl _, Below.refl _ _⟩
  · go_enter Try.func65, Try.ntmps65
    go_wp2_with (at_builtin; refine wpList_append_mkS (m := k) rfl (.tmp 20) (.tmp 21) rfl rfl rfl h0 hk ?_; intro c1 w1 h1 hb1; have hle1 := h1.le; have hcp1 := h1.cap)
    go_ret
    refine ⟨_, c1, rfl, ?_, hle1, hb1⟩
    have := Row.trim h1 (k := 0) (Nat.zero_le _)
    rw [Nat.zero_mul, List.take_zero] at this
    exact this

set_option maxHeartbeats 1000000 in
theorem concatS_c {w : World} {B : Nat} {A : Option Addr} {n c : Nat} (ps : List Part) (ha : Sl w B 1 A n c (ps.map Part.v)) (hB : B ≤ w.heap.size) (hps : ∀ p ∈ ps, SlS w B p.A p.n p.c p.bs) (ht : total ps ≤ 1000000) :
    Calls Try.prog 40 #[.slice A n c] w fun e w' => ∃ A' c', e = .returned (.slice A' (total ps) c') ∧ OwS w' w.heap.size A' (total ps) c' (joined ps) ∧ Below w.heap.size w w' := by
  have hl : ps.length = n := by have := ha.1; simpa using this
  have hcm : c ≤ 9223372036854775807 := ha.2.2.1
  have hnc := ha.2.1
  have HL := Lib.hid hl
  have HPS := Lib.hid hps
  have HT := Lib.hid ht
  -- the cells, where there is a row
  have hcell : ∃ b off, (0 < n → A = some ⟨b, off, none⟩ ∧ b < B ∧ ∀ (j : Nat) (p : Part), ps[j]? = some p → w.cell? ⟨b, off + j, none⟩ = some p.v) := by
    rcases Nat.eq_zero_or_pos n with h0 | h0
    · exact ⟨0, 0, fun h => absurd h (by omega)⟩
    · obtain ⟨b, off, e, hb, hj⟩ := ha.2.2.2 (by omega)
      exact ⟨b, off, fun _ => ⟨e, hb, fun j p hp => hj j _ (by rw [List.getElem?_map, hp]; rfl)⟩⟩
  obtain ⟨b, off, hcl⟩ := hcell
  have HC := Lib.hid hcl
  clear hl hps ha ht hcl
  go_enter Try.func40, Try.ntmps40
  go_wp2_with fail
  go_loop [3, 11] (fun v3 v11 => ∃ k s : Nat, k ≤ n ∧ v11 = .int .i64 (k : Int) ∧ v3 = .int .i64 (s : Int) ∧ s = total (ps.take k)) (fun _ v11 => n - (intOf v11).toNat)
  case atStart => exact ⟨0, 0, by omega, rfl, rfl, by simp [total]⟩
  case round =>
    obtain ⟨k, s, hk, rfl, rfl, hs⟩ := hrel
    have hsl : s ≤ 1000000 := by rw [hs]; exact Nat.le_trans (total_take_le _ _) HT.out
    have HS := Lib.hid hs
    clear hs
    by_cases hlt : k < n
    · obtain ⟨rfl, _, hj⟩ := HC.out (by omega)
      obtain ⟨p, hp⟩ : ∃ p, p = ps[k]'(by rw [HL.out]; exact hlt) := ⟨_, rfl⟩
      have hc := hj k p (by rw [hp]; exact List.getElem?_eq_getElem _)
      unfold Part.v at hc
      have hnx : total (ps.take (k + 1)) = s + p.n := by rw [List.take_succ_eq_append_getElem (by rw [HL.out]; exact hlt), total_snoc, ← hp, HS.out]
      have hle : s + p.n ≤ 1000000 := by rw [← hnx]; exact Nat.le_trans (total_take_le _ _) HT.out
      have HN := Lib.hid hnx
      have hik : (k : Int) < (n : Int) := by omega
      clear hj hp hnx
      go_wp2_with fail
      go_round
      case rel => exact ⟨k + 1, s + p.n, by omega, by go_num, by go_num, HN.out.symm⟩
      case measure => simp [intOf]; omega
    · obtain rfl : k = n := by omega
      have hst : s = total ps := by rw [HS.out, List.take_of_length_le (by rw [HL.out]; exact Nat.le_refl _)]
      have HST := Lib.hid hst
      clear hst HS
      go_wp2_with fail
      refine (growNilS_c s hsl w).mono ?_
      rintro e w1 ⟨A1, c1, rfl, h1, hc1, hb1⟩
      have H1 := Lib.hid h1
      clear h1
      go_wp2_with fail
      go_loopw [6, 27] (fun v6 v27 wr => ∃ (k' s' : Nat) (A' : Option Addr) (c' : Nat), k' ≤ k ∧ v27 = .int .i64 (k' : Int) ∧ v6 = .slice A' s' c' ∧ s' = total (ps.take k') ∧ OwS wr w.heap.size A' s' c' (joined (ps.take k')) ∧ Below w.heap.size w wr) (fun _ v27 _ => k - (intOf v27).toNat)
      case atStart => exact ⟨0, 0, A1, c1, by omega, rfl, rfl, by simp [total], by simpa [joined] using H1.out, hb1⟩
      case round =>
        clear H1
        obtain ⟨k', s', A', c', hk', rfl, rfl, hs', ho, hb⟩ := hrel
        have hz := hb.size
        have HO := Lib.hid ho
        have HS' := Lib.hid hs'
        clear ho hs'
        by_cases hlt' : k' < k
        · obtain ⟨rfl, hbB, hj⟩ := HC.out (by omega)
          obtain ⟨p, hp⟩ : ∃ p, p = ps[k']'(by rw [HL.out]; exact hlt') := ⟨_, rfl⟩
          have hc : wr.cell? ⟨b, off + k', none⟩ = some p.v := (hb.cell (p := ⟨b, off + k', none⟩) (Nat.lt_of_lt_of_le hbB hB)).trans (hj k' p (by rw [hp]; exact List.getElem?_eq_getElem _))
          unfold Part.v at hc
          have hnx : total (ps.take (k' + 1)) = s' + p.n := by rw [List.take_succ_eq_append_getElem (by rw [HL.out]; exact hlt'), total_snoc, ← hp, HS'.out]
          have hjx : joined (ps.take (k' + 1)) = joined (ps.take k') ++ p.bs := by rw [List.take_succ_eq_append_getElem (by rw [HL.out]; exact hlt'), joined_snoc, ← hp]
          have hle : s' + p.n ≤ 1000000 := by rw [← hnx]; exact Nat.le_trans (total_take_le _ _) HT.out
          have hpr : SlS wr B p.A p.n p.c p.bs := (HPS.out p (by rw [hp]; exact List.getElem_mem _)).below (hb.mono hB)
          have HN := Lib.hid hnx
          have HJ := Lib.hid hjx
          have HP := Lib.hid hpr
          have hik : (k' : Int) < (k : Int) := by omega
          clear hj hp hnx hjx hpr
          go_wp2_with (at_builtin; refine wpList_appendS rfl (.tmp 31) (.tmp 32) rfl rfl HO.out rfl HP.out (by omega) hz (s' + p.n) rfl ?_; intro A9 c9 w9 h9 q9)
          go_roundw
          case rel =>
            refine ⟨k' + 1, s' + p.n, A9, c9, by omega, by go_num, rfl, HN.out.symm, ?_, q9.below HO.out hb (Nat.le_refl _) hz⟩
            rw [HJ.out]
            exact h9
          case measure => simp [intOf]; omega
        · obtain rfl : k' = k := by omega
          have e1 : s' = total ps := by rw [HS'.out, List.take_of_length_le (by rw [HL.out]; exact Nat.le_refl _)]
          have e2 : joined (ps.take k') = joined ps := by rw [List.take_of_length_le (by rw [HL.out]; exact Nat.le_refl _)]
          have HE1 := Lib.hid e1
          have HE2 := Lib.hid e2
          clear e1 e2
          go_wp2_with fail
          go_ret
          refine ⟨A', c', by rw [← HE1.out]; rfl, ?_, hb⟩
          rw [← HE1.out, ← HE2.out]
          exact HO.out
end Go.Proofs.Ytdifepfplfkfoaa
