/-
  append of a string's bytes.
-/
import Derived.Deep.AppendSrc
import Derived.Test.YtbphoilfiahnpaaByt3
namespace Go.Proofs.Ytbphoilfiahnpaa
open Go.RowKit
set_option linter.unusedVariables false
set_option linter.unusedSimpArgs false

theorem run_append_str {w : World} {base : Nat} {ty : TypeId} {A : Option Addr} {n c : Nat} {bs : List UInt8} (hown : OwB w base A n c bs) (s : ByteArray) (hb : n + s.size ≤ 140737488355328) (hbase : base ≤ w.heap.size) :
    ∃ A' c' w', (Builtin.append_ #[31, 9] ty #[.slice A n c, .string s]).run Try.prog w = .ok (.slice A' (n + s.size) c') w' ∧ OwB w' base A' (n + s.size) c' (bs ++ s.data.toList) ∧ Went w w' A n c s.size A' c' := by
  obtain ⟨i, hi, hz0, hz1, hz2⟩ := info_parts bytes_info
  obtain ⟨m, hm⟩ : ∃ m, m = s.size := ⟨_, rfl⟩
  have hsl : s.data.toList.length = m := by rw [hm]; simp
  have hnews : ∀ w', (Builtin.firstCells i.size s.size (.string s)).run Try.prog w' = .ok (s.data.toList.map b8).toArray w' := fun w' => by
    rw [hz1, Go.firstCells_string]
    rfl
  have hnews' : ∀ w', (Builtin.firstCells 1 m (.string s)).run Try.prog w' = .ok (s.data.toList.map b8).toArray w' := fun w' => by rw [← hz1, hm]; exact hnews w'
  have hlen : (bs.map b8 ++ s.data.toList.map b8).length = (n + m) * 1 := by rw [List.length_append, List.length_map, List.length_map, hown.len, hsl, Nat.mul_one]
  have hrow : ∀ w' A' c', Row w' base 5 1 A' (n + m) c' (bs.map b8 ++ s.data.toList.map b8) → OwB w' base A' (n + m) c' (bs ++ s.data.toList) := fun w' A' c' h => by rw [OwB, List.map_append]; exact h
  have hpos : s.size = m := hm.symm
  rw [hpos] at hb hnews ⊢
  by_cases hroom : n + m ≤ c
  · rcases Nat.eq_zero_or_pos c with hc0 | hc0
    · obtain rfl : n = 0 := by omega
      obtain rfl : m = 0 := by omega
      subst hc0
      obtain rfl : bs = [] := List.eq_nil_of_length_eq_zero hown.len
      have hsn : s.data.toList = [] := List.eq_nil_of_length_eq_zero hsl
      refine ⟨A, 0, w, ?_, by rw [hsn]; exact OwB.nil _ _ _, .inl ⟨by omega, rfl, rfl, World.grownBy.refl _ _⟩⟩
      have hn0 := hnews w
      rw [hsn] at hn0
      cases A with
      | none => simp [Builtin.append_, run_underlying Try.underlying31, sizeOf, typeInfo, hi, Builtin.lenOf, hpos, hn0]
      | some a => simp [Builtin.append_, run_underlying Try.underlying31, sizeOf, typeInfo, hi, Builtin.lenOf, hpos, hn0, storeCells]
    · obtain ⟨g, cur, rfl, hg, hbk, hs, htk⟩ := hown.2.2.2 hc0
      have hfit : n * 1 + (s.data.toList.map b8).length ≤ cur.size := by rw [List.length_map, hsl]; omega
      have hst := run_storeCells_at Try.prog g (n * 1) 5 (s.data.toList.map b8) 0 cur w hbk (by simpa using hfit) (b8_one _)
      simp only [Nat.add_zero, Nat.mul_one, List.length_map, hsl] at hst
      rw [Nat.mul_one] at hs htk hfit
      rw [List.length_map, hsl] at hfit
      refine ⟨some ⟨g, 0, none⟩, c, w.setRow g (cur.toList.take n ++ s.data.toList.map b8 ++ cur.toList.drop (n + m)).toArray, ?_, ?_, .inl ⟨hroom, rfl, rfl, ?_⟩⟩
      · simp only [Builtin.append_, run_underlying Try.underlying31, sizeOf, typeInfo, hi, Builtin.lenOf, hpos, hz1]
        simp [hpos, hroom, hnews', Addr.add_lit, hst, hi, hz1]
      · refine hrow _ _ _ ⟨hlen, hroom, hown.2.2.1, fun _ => ⟨g, _, rfl, hg, setRow_heap w g cur _ _ _ hbk, ?_, ?_⟩⟩
        · simp only [List.size_toArray, List.length_append, List.length_take, List.length_drop, Array.length_toList, List.length_map, hsl]
          omega
        · rw [htk, ← hlen]
          exact List.take_left
      · exact ⟨rfl, rfl, rfl, by simp, fun k _ hk => setRow_other w g k _ (fun e => hk (by rw [wrote, if_neg (by omega)]; simp [e]))⟩
  · have h63' : ¬ (9223372036854775807 < ((n : Int) + (m : Int))) := by omega
    have h48' : ¬ (281474976710656 < Builtin.nextslicecap (n + m) c * i.bytes) := by have := growslice_fits (old := c) (by omega) (show (n + m) * i.bytes ≤ 140737488355328 by rw [hz2]; omega); omega
    have hge := grownCap_ge w (n + m) c 5
    have hcm : grownCap w (n + m) c 5 ≤ maxLen := grownCap_le_maxLen w (n + m) c 5 (by simp only [maxLen]; omega)
    have hnews1 := hnews w.drew
    have hold : (Builtin.firstCells i.size n (.slice A n c)).run Try.prog w.drew = .ok (bs.map b8).toArray w.drew := by rw [hz1]; exact run_firstCells_sl (P := Try.prog) (Row.sl hown) w.drew (fun _ => by simp)
    refine ⟨some ⟨w.heap.size, 0, none⟩, grownCap w (n + m) c 5, w.drew.alloc (.cells ((bs.map b8).toArray ++ (s.data.toList.map b8).toArray ++ Builtin.zeroCells (Value.cells (.int .u8 0)) (grownCap w (n + m) c 5 - (n + m))) 5), ?_, ?_, .inr ⟨by omega, rfl, hge, ?_⟩⟩
    · simp [Builtin.append_, run_underlying Try.underlying31, sizeOf, typeInfo, zeroValue, hi, hz0, Builtin.lenOf, hpos, hroom, h63', h48', Question.forced, hnews1, hold, newRow, grownCap]
      rw [← List.append_toArray, Array.append_assoc]
    · refine hrow _ _ _ ⟨hlen, hge, hcm, fun _ => ⟨w.heap.size, _, rfl, hbase, Blk.new w.drew _ _, ?_, ?_⟩⟩
      · simp only [Array.size_append, List.size_toArray, size_zeroCells, List.length_map, hown.len, hsl]
        simp [Value.cells]
        omega
      · simp only [Array.toList_append, List.append_assoc]
        rw [← List.append_assoc, ← hlen]
        exact List.take_left
    · exact ⟨rfl, rfl, rfl, by simp, fun k hk _ => Below.heap_alloc w.drew _ k hk⟩

theorem wpList_append_str {ops : Array Oper} {rest : List Oper} {o : Oper} {a : Act} {Q : Exit → Act → World → Prop} {w : World} (hgd : o.guard = none) (s x : Operand)
    (ho : o.op = .call { callee := .builtin .append, args := #[s, x], argTypes := #[31, 9] })
    {base : Nat} {A : Option Addr} {n c : Nat} {bs : List UInt8} (hs : a.eval s = .slice A n c) (hown : OwB w base A n c bs) (str : ByteArray) (hx : a.eval x = .string str) (hb : n + str.size ≤ 140737488355328) (hbase : base ≤ w.heap.size) (k : Nat) (hk : n + str.size = k)
    (h : ∀ A' c' w', OwB w' base A' k c' (bs ++ str.data.toList) → Went w w' A n c str.size A' c' → wpList Try.prog ops Q rest (a.put o.dst (.slice A' k c')) w') :
    wpList Try.prog ops Q (o :: rest) a w := by
  subst hk
  refine wpList_plain hgd fun K hK => ?_
  obtain ⟨A', c', w', hrun, h2, h3⟩ := run_append_str (ty := o.type) hown str hb hbase
  unfold Oper.wp execOp
  simp only [ho, resolve, invoke, builtin, Sem.run_bind, Sem.run_pure, Result.andThen_ok, List.map_toArray, List.map_cons, List.map_nil, hs, hx, hrun]
  exact hK _ _ (h A' c' w' h2 h3)
end Go.Proofs.Ytbphoilfiahnpaa
