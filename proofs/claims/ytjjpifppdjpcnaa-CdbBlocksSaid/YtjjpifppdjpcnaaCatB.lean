/-
  slices.Concat of bytes (lines of XDigB alone): Grow at nil, rows joined; a slice's tail; numbers up to a bound.
-/
import Derived.WalkMore
import Derived.Test.YtjjpifppdjpcnaaBase
namespace Go.Proofs.Ytjjpifppdjpcnaa
open Go.RowKit
set_option linter.unusedVariables false
set_option linter.unusedSimpArgs false
set_option maxRecDepth 100000

theorem zeroV8 (W : World) : (zeroValue 5).run Try.prog W = .ok (.int .u8 0) W := by kernel_rfl
def zer8 (m : Nat) : List UInt8 := List.replicate m 0
theorem len_zer8 (m : Nat) : (zer8 m).length = m := by simp [zer8]

/-- 's[lo:]' of a row that stands at its block's beginning, lo below the capacity. -/
theorem slice_tail_run (g n c lo m : Nat) (h1 : lo ≤ n) (h2 : lo < c) (hm : n - lo = m) (W : World) : (Instr.sliceAt 22 (.slice (some ⟨g, 0, none⟩) n c) (some (.int .i64 (lo : Int))) none none).run Try.prog W = .ok (.slice (some ⟨g, lo, none⟩) m (c - lo)) W := by
  subst hm
  have he : Try.prog.underlying 22 = some (.slice (Try.prog.elem 22)) := by rw [bytes_elem]; exact Try.underlying22
  have hs : (sizeOf (Try.prog.elem 22)).run Try.prog W = .ok 1 W := by rw [bytes_elem]; kernel_rfl
  rw [run_sliceAt_slice W _ _ _ _ _ he, run_slice_l W _ _ n c he .i64 lo (by omega) (by omega), hs]
  have e : c ≠ lo := by omega
  simp [Result.andThen, sliced, Addr.add, e]
  omega

theorem run_append_mk {w : World} {base : Nat} {ty : TypeId} {A : Option Addr} {n c : Nat} {bs : List UInt8} (hown : OwB w base A n c bs) {m : Nat} (hb : n + m ≤ 140737488355328) (hbase : base ≤ w.heap.size) :
    ∃ A' c' w', (Builtin.append_ #[22, 3] ty #[.slice A n c, .int .i64 (m : Int)]).run Try.prog w = .ok (.slice A' (n + m) c') w' ∧ OwB w' base A' (n + m) c' (bs ++ zer8 m) ∧ Went w w' A n c m A' c' := by
  obtain ⟨i, hi, hz0, hz1, hz2⟩ := info_parts bytes_info
  have hwr : IntKind.i64.wrap (m : Int) = (m : Int) := by rw [IntKind.wrap_i64]; omega
  have hm0 : ¬ ((m : Int) < 0) := by omega
  have hmb : ¬ ((281474976710656 : Int) < (m : Int)) := by omega
  have hzc : ∀ k, Builtin.zeroCells (Value.cells (.int .u8 0)) k = ((zer8 k).map b8).toArray := fun k => by
    apply Array.ext_getElem?
    intro j
    simp [Builtin.zeroCells, Value.cells, Nat.mod_one, b8_def, zer8]
    by_cases h : j < k <;> simp [h]
  have hz0' : zer8 0 = [] := rfl
  have hw0 : IntKind.i64.wrap 0 = 0 := rfl
  have hlen : bs.length = n := hown.len
  by_cases hroom : n + m ≤ c
  · rcases Nat.eq_zero_or_pos c with hc0 | hc0
    · obtain rfl : n = 0 := by omega
      obtain rfl : m = 0 := by omega
      subst hc0
      obtain rfl : bs = [] := List.eq_nil_of_length_eq_zero hlen
      refine ⟨A, 0, w, ?_, OwB.nil _ _ _, .inl ⟨by omega, rfl, rfl, World.grownBy.refl _ _⟩⟩
      cases A with
      | none => simp [hw0, Builtin.append_, run_underlying Try.underlying22, run_underlying Try.underlying3, sizeOf, typeInfo, hi, hz2, asInt, asIntOf]
      | some a => simp [hw0, Builtin.append_, run_underlying Try.underlying22, run_underlying Try.underlying3, sizeOf, typeInfo, hi, hz2, asInt, asIntOf, storeCells]
    · obtain ⟨g, cur, rfl, hg, hbk, hs, htk⟩ := hown.open_ hc0
      have hfit : n + ((zer8 m).map b8).length ≤ cur.size := by rw [List.length_map, len_zer8]; omega
      have hst := run_storeCells_at Try.prog g n 5 ((zer8 m).map b8) 0 cur w hbk (by simpa using hfit) (b8_one _)
      simp only [Nat.add_zero] at hst
      refine ⟨some ⟨g, 0, none⟩, c, w.setRow g (cur.toList.take n ++ (zer8 m).map b8 ++ cur.toList.drop (n + ((zer8 m).map b8).length)).toArray, ?_, ?_, .inl ⟨hroom, rfl, rfl, ?_⟩⟩
      · by_cases hm : m = 0
        · subst hm
          simp only [hz0', List.map_nil] at hst
          have hroom0 : n ≤ c := hown.le
          simp [hw0, Builtin.append_, run_underlying Try.underlying22, run_underlying Try.underlying3, sizeOf, typeInfo, hi, hz1, hz2, asInt, asIntOf, hroom0, Addr.add_lit, hz0', hst]
        · simp [Builtin.append_, run_underlying Try.underlying22, run_underlying Try.underlying3, sizeOf, typeInfo, zeroValue, hi, hz0, hz1, hz2, asInt, asIntOf, hwr, hm0, hmb, hroom, Addr.add_lit, hm, hzc, hst]
      · refine OwB.shut (setRow_heap w g cur _ _ _ hbk) hg ?_ hroom hown.2.2.1 ?_ (by rw [List.length_append, hlen, len_zer8])
        · simp only [List.size_toArray, List.length_append, List.length_take, List.length_drop, Array.length_toList]
          omega
        · rw [htk, ← List.map_append]
          exact List.take_left' (by rw [List.length_map, List.length_append, hlen, len_zer8])
      · exact ⟨rfl, rfl, rfl, by simp, fun k _ hk => setRow_other w g k _ (fun e => hk (by rw [wrote, if_neg (by omega)]; simp [e]))⟩
  · have hmne : ¬ m = 0 := by have := hown.le; omega
    have h63 : n + m ≤ maxLen := by simp only [maxLen]; omega
    have h63' : ¬ (9223372036854775807 < ((n : Int) + (m : Int))) := by omega
    have h48' : ¬ (281474976710656 < Builtin.nextslicecap (n + m) c) := by have := growslice_fits (old := c) (need := n + m) (bytes := 1) (by omega) (by omega); omega
    have hge := grownCap_ge w (n + m) c 5
    have hcm : grownCap w (n + m) c 5 ≤ maxLen := grownCap_le_maxLen w (n + m) c _ h63
    have hold : (Builtin.firstCells 1 n (.slice A n c)).run Try.prog w.drew = .ok (bs.map b8).toArray w.drew := run_firstCells_sl (P := Try.prog) hown.sl w.drew (fun _ => by simp)
    refine ⟨some ⟨w.heap.size, 0, none⟩, grownCap w (n + m) c 5, w.drew.alloc (.cells (((bs ++ zer8 m).map b8).toArray ++ Builtin.zeroCells (Value.cells (.int .u8 0)) (grownCap w (n + m) c 5 - (n + m))) 5), ?_, ?_, .inr ⟨by omega, rfl, hge, ?_⟩⟩
    · simp [Builtin.append_, run_underlying Try.underlying22, run_underlying Try.underlying3, sizeOf, typeInfo, zeroValue, hi, hz0, hz1, hz2, asInt, asIntOf, hwr, hm0, hmb, h48', hroom, h63', Question.forced, hold, newRow, grownCap, hmne, hzc]
    · refine OwB.shut (Blk.new w.drew _ _) hbase ?_ hge hcm ?_ (by rw [List.length_append, hlen, len_zer8])
      · simp only [Array.size_append, List.size_toArray, size_zeroCells, List.length_map, List.length_append, hlen, len_zer8, show (Value.cells (.int .u8 0)).size = 1 from rfl]
        omega
      · simp only [Array.toList_append]
        rw [List.take_left']
        simp [hlen, len_zer8]
    · exact ⟨rfl, rfl, rfl, by simp, fun k hk _ => Below.heap_alloc w.drew _ k hk⟩

theorem wpList_append_mk {ops : Array Oper} {rest : List Oper} {o : Oper} {a : Act} {Q : Exit → Act → World → Prop} {w : World} (hgd : o.guard = none) (s x : Operand)
    (ho : o.op = .call { callee := .builtin .append, args := #[s, x], argTypes := #[22, 3] })
    {base : Nat} {A : Option Addr} {n c : Nat} {bs : List UInt8} (hs : a.eval s = .slice A n c) (hown : OwB w base A n c bs) {m : Nat} (hx : a.eval x = .int .i64 (m : Int)) (hb : n + m ≤ 140737488355328) (hbase : base ≤ w.heap.size) (k : Nat) (hk : n + m = k)
    (h : ∀ A' c' w', OwB w' base A' k c' (bs ++ zer8 m) → Went w w' A n c m A' c' → wpList Try.prog ops Q rest (a.put o.dst (.slice A' k c')) w') :
    wpList Try.prog ops Q (o :: rest) a w := by
  subst hk
  refine wpList_plain hgd fun K hK => ?_
  obtain ⟨A', c', w', hrun, h2, h3⟩ := run_append_mk (ty := o.type) hown hb hbase
  unfold Oper.wp execOp
  simp only [ho, resolve, invoke, builtin, Sem.run_bind, Sem.run_pure, Result.andThen_ok, List.map_toArray, List.map_cons, List.map_nil, hs, hx, hrun]
  exact hK _ _ (h A' c' w' h2 h3)

theorem growNil_c (k : Nat) (hk : k ≤ 140737488353000) (w : World) :
    Calls Try.prog 63 #[.slice none 0 0, .int .i64 (k : Int)] w fun e w' => ∃ A' c', e = .returned (.slice A' 0 c') ∧ OwB w' w.heap.size A' 0 c' [] ∧ k ≤ c' ∧ Below w.heap.size w w' := by
  have hn0 := OwB.nil w w.heap.size none
  rcases Nat.eq_zero_or_pos k with h0 | h0
  · subst h0
    go_enter Try.func63, Try.ntmps63
    go_wp2_with fail
    go_ret
    exact ⟨none, 0, rfl, hn0, Nat.le_refl _, Below.refl _ _⟩
  · go_enter Try.func63, Try.ntmps63
    go_wp2_with (at_builtin; refine wpList_append_mk (m := k) rfl (.tmp 20) (.tmp 21) rfl rfl hn0 rfl (by omega) (Nat.le_refl _) k (by omega) ?_; intro A1 c1 w1 h1 q1; have hle1 := h1.le; have hcp1 := h1.cap; have hb1 : Below w.heap.size w w1 := q1.below hn0 (Below.refl _ _) (Nat.le_refl _) (Nat.le_refl _))
    go_ret
    refine ⟨A1, c1, rfl, ?_, hle1, hb1⟩
    have := h1.trim (k := 0) (Nat.zero_le _)
    rwa [List.take_zero] at this

/-- A row that is to be joined: the slice, and the bytes that it reads as. -/
structure Part where
  A : Option Addr
  n : Nat
  c : Nat
  bs : List UInt8
def Part.v (p : Part) : Value := .slice p.A p.n p.c
def total (ps : List Part) : Nat := (ps.map (·.n)).sum
def joined (ps : List Part) : List UInt8 := (ps.map (·.bs)).flatten
theorem total_snoc (ps : List Part) (p : Part) : total (ps ++ [p]) = total ps + p.n := by simp [total]
theorem joined_snoc (ps : List Part) (p : Part) : joined (ps ++ [p]) = joined ps ++ p.bs := by simp [joined]
theorem total_append (a b : List Part) : total (a ++ b) = total a + total b := by simp [total]
theorem total_take_le (ps : List Part) (k : Nat) : total (ps.take k) ≤ total ps := by
  have h : total ps = total (ps.take k) + total (ps.drop k) := by
    have e : total ps = total (ps.take k ++ ps.drop k) := by rw [List.take_append_drop]
    exact e.trans (total_append _ _)
  omega

set_option maxHeartbeats 1000000 in
theorem concat_c {w : World} {B : Nat} {A : Option Addr} {n c : Nat} (ps : List Part) (ha : Sl w B 1 A n c (ps.map Part.v)) (hB : B ≤ w.heap.size) (hps : ∀ p ∈ ps, SlB w B p.A p.n p.c p.bs) (ht : total ps ≤ 140737488353000) :
    Calls Try.prog 60 #[.slice A n c] w fun e w' => ∃ A' c', e = .returned (.slice A' (total ps) c') ∧ OwB w' w.heap.size A' (total ps) c' (joined ps) ∧ Below w.heap.size w w' := by
  have hl : ps.length = n := by have := ha.1; simpa using this
  have hcm : c ≤ 9223372036854775807 := ha.2.2.1
  have hnc := ha.2.1
  have HL := Lib.hid hl
  have HPS := Lib.hid hps
  have HT := Lib.hid ht
  -- the cells, where there is a row
  have hcell : ∃ b off, (0 < n → A = some ⟨b, off, none⟩ ∧ b < B ∧ ∀ (j : Nat) (p : Part), ps[j]? = some p → w.cell? ⟨b, off + j, none⟩ = some p.v) := by
    rcases Nat.eq_zero_or_pos n with h0 | h0
    · exact ⟨0, 0, fun h => absurd h (by omega)⟩
    · obtain ⟨b, off, e, hb, hj⟩ := ha.2.2.2 (by omega)
      exact ⟨b, off, fun _ => ⟨e, hb, fun j p hp => hj j _ (by rw [List.getElem?_map, hp]; rfl)⟩⟩
  obtain ⟨b, off, hcl⟩ := hcell
  have HC := Lib.hid hcl
  clear hl hps ha ht hcl
  go_enter Try.func60, Try.ntmps60
  go_wp2_with fail
  go_loop [3, 11] (fun v3 v11 => ∃ k s : Nat, k ≤ n ∧ v11 = .int .i64 (k : Int) ∧ v3 = .int .i64 (s : Int) ∧ s = total (ps.take k)) (fun _ v11 => n - (intOf v11).toNat)
  case atStart => exact ⟨0, 0, by omega, rfl, rfl, by simp [total]⟩
  case round =>
    obtain ⟨k, s, hk, rfl, rfl, hs⟩ := hrel
    have hsl : s ≤ 140737488353000 := by rw [hs]; exact Nat.le_trans (total_take_le _ _) HT.out
    have HS := Lib.hid hs
    clear hs
    by_cases hlt : k < n
    · obtain ⟨rfl, _, hj⟩ := HC.out (by omega)
      obtain ⟨p, hp⟩ : ∃ p, p = ps[k]'(by rw [HL.out]; exact hlt) := ⟨_, rfl⟩
      have hc := hj k p (by rw [hp]; exact List.getElem?_eq_getElem _)
      unfold Part.v at hc
      have hnx : total (ps.take (k + 1)) = s + p.n := by rw [List.take_succ_eq_append_getElem (by rw [HL.out]; exact hlt), total_snoc, ← hp, HS.out]
      have hle : s + p.n ≤ 140737488353000 := by rw [← hnx]; exact Nat.le_trans (total_take_le _ _) HT.out
      have HN := Lib.hid hnx
      have hik : (k : Int) < (n : Int) := by omega
      clear hj hp hnx
      go_wp2_with fail
      go_round
      case rel => exact ⟨k + 1, s + p.n, by omega, by go_num, by go_num, HN.out.symm⟩
      case measure => simp [intOf]; omega
    · obtain rfl : k = n := by omega
      have hst : s = total ps := by rw [HS.out, List.take_of_length_le (by rw [HL.out]; exact Nat.le_refl _)]
      have HST := Lib.hid hst
      clear hst HS
      go_wp2_with fail
      refine (growNil_c s hsl w).mono ?_
      rintro e w1 ⟨A1, c1, rfl, h1, hc1, hb1⟩
      have H1 := Lib.hid h1
      clear h1
      go_wp2_with fail
      go_loopw [6, 27] (fun v6 v27 wr => ∃ (k' s' : Nat) (A' : Option Addr) (c' : Nat), k' ≤ k ∧ v27 = .int .i64 (k' : Int) ∧ v6 = .slice A' s' c' ∧ s' = total (ps.take k') ∧ OwB wr w.heap.size A' s' c' (joined (ps.take k')) ∧ Below w.heap.size w wr) (fun _ v27 _ => k - (intOf v27).toNat)
      case atStart => exact ⟨0, 0, A1, c1, by omega, rfl, rfl, by simp [total], by simpa [joined] using H1.out, hb1⟩
      case round =>
        clear H1
        obtain ⟨k', s', A', c', hk', rfl, rfl, hs', ho, hb⟩ := hrel
        have hz := hb.size
        have HO := Lib.hid ho
        have HS' := Lib.hid hs'
        clear ho hs'
        by_cases hlt' : k' < k
        · obtain ⟨rfl, hbB, hj⟩ := HC.out (by omega)
          obtain ⟨p, hp⟩ : ∃ p, p = ps[k']'(by rw [HL.out]; exact hlt') := ⟨_, rfl⟩
          have hc : wr.cell? ⟨b, off + k', none⟩ = some p.v := (hb.cell (p := ⟨b, off + k', none⟩) (Nat.lt_of_lt_of_le hbB hB)).trans (hj k' p (by rw [hp]; exact List.getElem?_eq_getElem _))
          unfold Part.v at hc
          have hnx : total (ps.take (k' + 1)) = s' + p.n := by rw [List.take_succ_eq_append_getElem (by rw [HL.out]; exact hlt'), total_snoc, ← hp, HS'.out]
          have hjx : joined (ps.take (k' + 1)) = joined (ps.take k') ++ p.bs := by rw [List.take_succ_eq_append_getElem (by rw [HL.out]; exact hlt'), joined_snoc, ← hp]
          have hle : s' + p.n ≤ 140737488353000 := by rw [← hnx]; exact Nat.le_trans (total_take_le _ _) HT.out
          have hpr : SlB wr B p.A p.n p.c p.bs := (HPS.out p (by rw [hp]; exact List.getElem_mem _)).below (hb.mono hB)
          have HN := Lib.hid hnx
          have HJ := Lib.hid hjx
          have HP := Lib.hid hpr
          have hik : (k' : Int) < (k : Int) := by omega
          clear hj hp hnx hjx hpr
          go_wp2_with (at_builtin; refine wpList_append8 rfl (.tmp 31) (.tmp 32) rfl rfl HO.out rfl HP.out (by omega) hz (s' + p.n) rfl ?_; intro A9 c9 w9 h9 q9)
          go_roundw
          case rel =>
            refine ⟨k' + 1, s' + p.n, A9, c9, by omega, by go_num, rfl, HN.out.symm, ?_, q9.below HO.out hb (Nat.le_refl _) hz⟩
            rw [HJ.out]
            exact h9
          case measure => simp [intOf]; omega
        · obtain rfl : k' = k := by omega
          have e1 : s' = total ps := by rw [HS'.out, List.take_of_length_le (by rw [HL.out]; exact Nat.le_refl _)]
          have e2 : joined (ps.take k') = joined ps := by rw [List.take_of_length_le (by rw [HL.out]; exact Nat.le_refl _)]
          have HE1 := Lib.hid e1
          have HE2 := Lib.hid e2
          clear e1 e2
          go_wp2_with fail
          go_ret
          refine ⟨A', c', by rw [← HE1.out]; rfl, ?_, hb⟩
          rw [← HE1.out, ← HE2.out]
          exact HO.out
/-- 's[i:]'. -/
theorem slice1_run (g off n c i : Nat) (h1 : i ≤ n) (h2 : i < c) (W : World) :
    (Instr.sliceAt 22 (.slice (some ⟨g, off, none⟩) n c) (some (.int .i64 (i : Int))) none none).run Try.prog W = .ok (.slice (some ⟨g, off + i, none⟩) (n - i) (c - i)) W := by
  have he : Try.prog.underlying 22 = some (.slice (Try.prog.elem 22)) := by rw [bytes_elem]; exact Try.underlying22
  have hs : (sizeOf (Try.prog.elem 22)).run Try.prog W = .ok 1 W := by rw [bytes_elem]; kernel_rfl
  rw [run_sliceAt_slice W _ _ _ _ _ he, run_slice_l W _ _ n c he .i64 (i : Int) (by omega) (by omega), hs]
  have e : c ≠ i := by omega
  simp [Result.andThen, sliced, Addr.add, e]

/-- What has come: the numbers of the first k pieces. -/
def upTo (k : Nat) : List Nat := List.range k
theorem upTo_succ (k : Nat) : upTo (k + 1) = upTo k ++ [k] := by simp [upTo, List.range_succ]
theorem len_upTo (k : Nat) : (upTo k).length = k := by simp [upTo]
end Go.Proofs.Ytjjpifppdjpcnaa
