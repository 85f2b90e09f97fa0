/-
  'append(s, make([]Sum, m)...)' onto any row of digests.
-/
import Derived.Test.YtdifepfplfkfoaaConcatS
namespace Go.Proofs.Ytdifepfplfkfoaa
open Go.RowKit
set_option linter.unusedVariables false
set_option linter.unusedSimpArgs false
set_option maxRecDepth 100000

def zsOf (m : Nat) : List UInt8 := List.replicate (m * 32) 0
theorem len_zsOf (m : Nat) : (zsOf m).length = m * 32 := by simp [zsOf]

theorem run_append_mk2S {w : World} {base : Nat} {ty : TypeId} {A : Option Addr} {n c m : Nat} {xs : List UInt8} (hown : OwS w base A n c xs) (hm : 0 < m) (hb : m ≤ 1000000) (hn : n ≤ 4000000) (hbase : base ≤ w.heap.size) :
    ∃ A' c' w', (Builtin.append_ #[51, 3] ty #[.slice A n c, .int .i64 (m : Int)]).run Try.prog w = .ok (.slice A' (n + m) c') w' ∧ OwS w' base A' (n + m) c' (xs ++ zsOf m) ∧ Went w w' A n c m A' c' := by
  obtain ⟨i, hi, hz⟩ : ∃ i, Try.prog.info? 28 = some i ∧ (i.size, i.bytes) = (32, 32) := by
    have h := sums_info
    cases hh : Try.prog.info? 28 with
    | none => rw [hh] at h; cases h
    | some i => rw [hh] at h; exact ⟨i, rfl, by simpa using h⟩
  have hz0 := zero44
  rw [hi] at hz0
  simp only [Prod.mk.injEq] at hz
  obtain ⟨hz1, hz2⟩ := hz
  simp only [Option.bind_some] at hz0
  have hwr : IntKind.i64.wrap (m : Int) = (m : Int) := by rw [IntKind.wrap_i64]; omega
  have hm0 : ¬ ((m : Int) < 0) := by omega
  have hmb : ¬ ((281474976710656 : Int) < (m : Int) * 32) := by omega
  have hmne : ¬ m = 0 := by omega
  have hzc : ∀ k, Builtin.zeroCells (Value.cells (.agg (arr8 (z8' 32)))) k = ((zsOf k).map b8).toArray := fun k => by
    apply Array.ext_getElem?
    intro j
    have hs : (Value.cells (.agg (arr8 (z8' 32)))).size = 32 := by simp [Value.cells, size_arr8, len_z8']
    have hg : ∀ q, q < 32 → (Value.cells (.agg (arr8 (z8' 32))))[q]! = b8 0 := fun q hq => by
      have h1 : (Value.cells (.agg (arr8 (z8' 32))))[q]? = some (b8 0) := by
        show (arr8 (z8' 32))[q]? = _
        rw [arr8_get, z8', List.getElem?_replicate, if_pos hq]; rfl
      rw [getElem!_def, h1]
    simp only [Builtin.zeroCells, hs, zsOf]
    rw [Array.getElem?_map, Array.getElem?_range, List.getElem?_toArray, List.getElem?_map, List.getElem?_replicate]
    split
    · simp [hg _ (Nat.mod_lt j (by decide : 0 < 32))]
    · rfl
  have hlen : xs.length = n * 32 := hown.len
  by_cases hroom : n + m ≤ c
  · obtain ⟨g, cur, rfl, hg, hbk, hs, htk⟩ := hown.2.2.2 (by omega)
    have hcs : (n + m) * 32 ≤ cur.size := Nat.le_trans (Nat.mul_le_mul_right _ hroom) hs
    have hfit : n * 32 + ((zsOf m).map b8).length ≤ cur.size := by rw [List.length_map, len_zsOf]; omega
    have hst := run_storeCells_at Try.prog g (n * 32) 28 ((zsOf m).map b8) 0 cur w hbk (by simpa using hfit) (b8_one _)
    simp only [Nat.add_zero] at hst
    refine ⟨some ⟨g, 0, none⟩, c, w.setRow g (cur.toList.take (n * 32) ++ (zsOf m).map b8 ++ cur.toList.drop (n * 32 + ((zsOf m).map b8).length)).toArray, ?_, ?_, .inl ⟨hroom, rfl, rfl, ?_⟩⟩
    · simp [Builtin.append_, run_underlying Try.underlying51, run_underlying Try.underlying3, sizeOf, typeInfo, zeroValue, hi, hz0, hz1, hz2, asInt, asIntOf, hwr, hm0, hmb, hroom, Addr.add_lit, hmne, hzc, hst]
      intro h
      omega
    · refine ⟨by rw [List.length_map, List.length_append, hlen, len_zsOf]; omega, hroom, hown.2.2.1, fun _ => ⟨g, _, rfl, hg, setRow_heap w g cur _ _ _ hbk, ?_, ?_⟩⟩
      · simp only [List.size_toArray, List.length_append, List.length_take, List.length_drop, Array.length_toList, List.length_map, len_zsOf]
        omega
      · rw [htk, ← List.map_append]
        exact List.take_left' (by rw [List.length_map, List.length_append, hlen, len_zsOf]; omega)
    · exact ⟨rfl, rfl, rfl, by simp, fun k _ hk => setRow_other w g k _ (fun e => hk (by rw [wrote, if_neg (by omega)]; simp [e]))⟩
  · have h63 : n + m ≤ maxLen := by simp only [maxLen]; omega
    have h63' : ¬ (9223372036854775807 < ((n : Int) + (m : Int))) := by omega
    have h48' : ¬ (281474976710656 < Builtin.nextslicecap (n + m) c * 32) := by have := growslice_fits (old := c) (need := n + m) (bytes := 32) (by omega) (by omega); omega
    have hge := grownCap_ge w (n + m) c 28
    have hcm : grownCap w (n + m) c 28 ≤ maxLen := grownCap_le_maxLen w (n + m) c _ h63
    have hold : (Builtin.firstCells 32 n (.slice A n c)).run Try.prog w.drew = .ok (xs.map b8).toArray w.drew := run_firstCells_sl (P := Try.prog) hown.sl w.drew (fun _ => by simp)
    refine ⟨some ⟨w.heap.size, 0, none⟩, grownCap w (n + m) c 28, w.drew.alloc (.cells (((xs ++ zsOf m).map b8).toArray ++ ((zsOf (grownCap w (n + m) c 28 - (n + m))).map b8).toArray) 28), ?_, ?_, .inr ⟨by omega, rfl, hge, ?_⟩⟩
    · simp [Builtin.append_, run_underlying Try.underlying51, run_underlying Try.underlying3, sizeOf, typeInfo, zeroValue, hi, hz0, hz1, hz2, asInt, asIntOf, hwr, hm0, hmb, h48', hroom, h63', Question.forced, hold, newRow, grownCap, hmne, hzc]
      intro h
      omega
    · refine ⟨by rw [List.length_map, List.length_append, hlen, len_zsOf]; omega, hge, hcm, fun _ => ⟨w.heap.size, _, rfl, hbase, Blk.new w.drew _ _, ?_, ?_⟩⟩
      · simp only [Array.size_append, List.size_toArray, List.length_map, List.length_append, hlen, len_zsOf]
        omega
      · rw [Array.toList_append]
        exact List.take_left' (by simp only [List.length_map, List.length_append, hlen, len_zsOf]; omega)
    · exact ⟨rfl, rfl, rfl, by simp, fun k hk _ => Below.heap_alloc w.drew _ k hk⟩

theorem wpList_append_mk2S {ops : Array Oper} {rest : List Oper} {o : Oper} {a : Act} {Q : Exit → Act → World → Prop} {w : World} (hgd : o.guard = none) (s x : Operand)
    (ho : o.op = .call { callee := .builtin .append, args := #[s, x], argTypes := #[51, 3] })
    {base : Nat} {A : Option Addr} {n c m : Nat} {xs : List UInt8} (hs : a.eval s = .slice A n c) (hown : OwS w base A n c xs) (hx : a.eval x = .int .i64 (m : Int)) (hm : 0 < m) (hb : m ≤ 1000000) (hn : n ≤ 4000000) (hbase : base ≤ w.heap.size) (k : Nat) (hk : n + m = k)
    (h : ∀ A' c' w', OwS w' base A' k c' (xs ++ zsOf m) → Went w w' A n c m A' c' → wpList Try.prog ops Q rest (a.put o.dst (.slice A' k c')) w') :
    wpList Try.prog ops Q (o :: rest) a w := by
  subst hk
  refine wpList_plain hgd fun K hK => ?_
  obtain ⟨A', c', w', hrun, h2, h3⟩ := run_append_mk2S (ty := o.type) hown hm hb hn hbase
  unfold Oper.wp execOp
  simp only [ho, resolve, invoke, builtin, Sem.run_bind, Sem.run_pure, Result.andThen_ok, List.map_toArray, List.map_cons, List.map_nil, hs, hx, hrun]
  exact hK _ _ (h A' c' w' h2 h3)
end Go.Proofs.Ytdifepfplfkfoaa
