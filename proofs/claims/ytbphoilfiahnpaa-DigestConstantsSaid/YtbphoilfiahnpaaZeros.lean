/-
  'append(s, make([]byte, m)...)' at a slice of the call's own; octets.AppendBig.
-/
import Derived.Test.YtbphoilfiahnpaaPutBig
namespace Go.Proofs.Ytbphoilfiahnpaa
open Go.RowKit
set_option linter.unusedVariables false
set_option maxRecDepth 100000

theorem zeroV8 (W : World) : (zeroValue 5).run Try.prog W = .ok (.int .u8 0) W := by kernel_rfl
def zer8 (m : Nat) : List UInt8 := List.replicate m 0
theorem len_zer8 (m : Nat) : (zer8 m).length = m := by simp [zer8]

/-- 's[lo:]' of a row that stands at its block's beginning, lo below the capacity. -/
theorem slice_tail_run (g n c lo m : Nat) (h1 : lo ≤ n) (h2 : lo < c) (hm : n - lo = m) (W : World) : (Instr.sliceAt 31 (.slice (some ⟨g, 0, none⟩) n c) (some (.int .i64 (lo : Int))) none none).run Try.prog W = .ok (.slice (some ⟨g, lo, none⟩) m (c - lo)) W := by
  subst hm
  have he : Try.prog.underlying 31 = some (.slice (Try.prog.elem 31)) := by rw [bytes_elem]; exact Try.underlying31
  have hs : (sizeOf (Try.prog.elem 31)).run Try.prog W = .ok 1 W := by rw [bytes_elem]; kernel_rfl
  rw [run_sliceAt_slice W _ _ _ _ _ he, run_slice_l W _ _ n c he .i64 lo (by omega) (by omega), hs]
  have e : c ≠ lo := by omega
  simp [Result.andThen, sliced, Addr.add, e]
  omega

theorem run_append_mk {w : World} {base : Nat} {ty : TypeId} {A : Option Addr} {n c : Nat} {bs : List UInt8} (hown : OwB w base A n c bs) {m : Nat} (hb : n + m ≤ 140737488355328) (hbase : base ≤ w.heap.size) :
    ∃ A' c' w', (Builtin.append_ #[31, 3] ty #[.slice A n c, .int .i64 (m : Int)]).run Try.prog w = .ok (.slice A' (n + m) c') w' ∧ OwB w' base A' (n + m) c' (bs ++ zer8 m) ∧ Went w w' A n c m A' c' := by
  obtain ⟨i, hi, hz0, hz1, hz2⟩ := info_parts bytes_info
  have hwr : IntKind.i64.wrap (m : Int) = (m : Int) := by rw [IntKind.wrap_i64]; omega
  have hm0 : ¬ ((m : Int) < 0) := by omega
  have hmb : ¬ ((281474976710656 : Int) < (m : Int)) := by omega
  have hzc : ∀ k, Builtin.zeroCells (Value.cells (.int .u8 0)) k = ((zer8 k).map b8).toArray := fun k => by
    apply Array.ext_getElem?
    intro j
    simp [Builtin.zeroCells, Value.cells, Nat.mod_one, b8_def, zer8]
    by_cases h : j < k <;> simp [h]
  have hz0' : zer8 0 = [] := rfl
  have hw0 : IntKind.i64.wrap 0 = 0 := rfl
  have hlen : bs.length = n := hown.len
  by_cases hroom : n + m ≤ c
  · rcases Nat.eq_zero_or_pos c with hc0 | hc0
    · obtain rfl : n = 0 := by omega
      obtain rfl : m = 0 := by omega
      subst hc0
      obtain rfl : bs = [] := List.eq_nil_of_length_eq_zero hlen
      refine ⟨A, 0, w, ?_, OwB.nil _ _ _, .inl ⟨by omega, rfl, rfl, World.grownBy.refl _ _⟩⟩
      cases A with
      | none => simp [hw0, Builtin.append_, run_underlying Try.underlying31, run_underlying Try.underlying3, sizeOf, typeInfo, hi, hz2, asInt, asIntOf]
      | some a => simp [hw0, Builtin.append_, run_underlying Try.underlying31, run_underlying Try.underlying3, sizeOf, typeInfo, hi, hz2, asInt, asIntOf, storeCells]
    · obtain ⟨g, cur, rfl, hg, hbk, hs, htk⟩ := hown.open_ hc0
      have hfit : n + ((zer8 m).map b8).length ≤ cur.size := by rw [List.length_map, len_zer8]; omega
      have hst := run_storeCells_at Try.prog g n 5 ((zer8 m).map b8) 0 cur w hbk (by simpa using hfit) (b8_one _)
      simp only [Nat.add_zero] at hst
      refine ⟨some ⟨g, 0, none⟩, c, w.setRow g (cur.toList.take n ++ (zer8 m).map b8 ++ cur.toList.drop (n + ((zer8 m).map b8).length)).toArray, ?_, ?_, .inl ⟨hroom, rfl, rfl, ?_⟩⟩
      · by_cases hm : m = 0
        · subst hm
          simp only [hz0', List.map_nil] at hst
          have hroom0 : n ≤ c := hown.le
          simp [hw0, Builtin.append_, run_underlying Try.underlying31, run_underlying Try.underlying3, sizeOf, typeInfo, hi, hz1, hz2, asInt, asIntOf, hroom0, Addr.add_lit, hz0', hst]
        · simp [Builtin.append_, run_underlying Try.underlying31, run_underlying Try.underlying3, sizeOf, typeInfo, zeroValue, hi, hz0, hz1, hz2, asInt, asIntOf, hwr, hm0, hmb, hroom, Addr.add_lit, hm, hzc, hst]
      · refine OwB.shut (setRow_heap w g cur _ _ _ hbk) hg ?_ hroom hown.2.2.1 ?_ (by rw [List.length_append, hlen, len_zer8])
        · simp only [List.size_toArray, List.length_append, List.length_take, List.length_drop, Array.length_toList]
          omega
        · rw [htk, ← List.map_append]
          exact List.take_left' (by rw [List.length_map, List.length_append, hlen, len_zer8])
      · exact ⟨rfl, rfl, rfl, by simp, fun k _ hk => setRow_other w g k _ (fun e => hk (by rw [wrote, if_neg (by omega)]; simp [e]))⟩
  · have hmne : ¬ m = 0 := by have := hown.le; omega
    have h63 : n + m ≤ maxLen := by simp only [maxLen]; omega
    have h63' : ¬ (9223372036854775807 < ((n : Int) + (m : Int))) := by omega
    have h48' : ¬ (281474976710656 < Builtin.nextslicecap (n + m) c) := by have := growslice_fits (old := c) (need := n + m) (bytes := 1) (by omega) (by omega); omega
    have hge := grownCap_ge w (n + m) c 5
    have hcm : grownCap w (n + m) c 5 ≤ maxLen := grownCap_le_maxLen w (n + m) c _ h63
    have hold : (Builtin.firstCells 1 n (.slice A n c)).run Try.prog w.drew = .ok (bs.map b8).toArray w.drew := run_firstCells_sl (P := Try.prog) hown.sl w.drew (fun _ => by simp)
    refine ⟨some ⟨w.heap.size, 0, none⟩, grownCap w (n + m) c 5, w.drew.alloc (.cells (((bs ++ zer8 m).map b8).toArray ++ Builtin.zeroCells (Value.cells (.int .u8 0)) (grownCap w (n + m) c 5 - (n + m))) 5), ?_, ?_, .inr ⟨by omega, rfl, hge, ?_⟩⟩
    · simp [Builtin.append_, run_underlying Try.underlying31, run_underlying Try.underlying3, sizeOf, typeInfo, zeroValue, hi, hz0, hz1, hz2, asInt, asIntOf, hwr, hm0, hmb, h48', hroom, h63', Question.forced, hold, newRow, grownCap, hmne, hzc]
    · refine OwB.shut (Blk.new w.drew _ _) hbase ?_ hge hcm ?_ (by rw [List.length_append, hlen, len_zer8])
      · simp only [Array.size_append, List.size_toArray, size_zeroCells, List.length_map, List.length_append, hlen, len_zer8, show (Value.cells (.int .u8 0)).size = 1 from rfl]
        omega
      · simp only [Array.toList_append]
        rw [List.take_left']
        simp [hlen, len_zer8]
    · exact ⟨rfl, rfl, rfl, by simp, fun k hk _ => Below.heap_alloc w.drew _ k hk⟩

theorem wpList_append_mk {ops : Array Oper} {rest : List Oper} {o : Oper} {a : Act} {Q : Exit → Act → World → Prop} {w : World} (hgd : o.guard = none) (s x : Operand)
    (ho : o.op = .call { callee := .builtin .append, args := #[s, x], argTypes := #[31, 3] })
    {base : Nat} {A : Option Addr} {n c : Nat} {bs : List UInt8} (hs : a.eval s = .slice A n c) (hown : OwB w base A n c bs) {m : Nat} (hx : a.eval x = .int .i64 (m : Int)) (hb : n + m ≤ 140737488355328) (hbase : base ≤ w.heap.size) (k : Nat) (hk : n + m = k)
    (h : ∀ A' c' w', OwB w' base A' k c' (bs ++ zer8 m) → Went w w' A n c m A' c' → wpList Try.prog ops Q rest (a.put o.dst (.slice A' k c')) w') :
    wpList Try.prog ops Q (o :: rest) a w := by
  subst hk
  refine wpList_plain hgd fun K hK => ?_
  obtain ⟨A', c', w', hrun, h2, h3⟩ := run_append_mk (ty := o.type) hown hb hbase
  unfold Oper.wp execOp
  simp only [ho, resolve, invoke, builtin, Sem.run_bind, Sem.run_pure, Result.andThen_ok, List.map_toArray, List.map_cons, List.map_nil, hs, hx, hrun]
  exact hK _ _ (h A' c' w' h2 h3)

/-- A part of a row of the call's own is written: the row holds what is written there. -/
theorem OwB.spliced {w w' : World} {base g n c : Nat} {bs xs : List UInt8} {off : Nat} (h : OwB w base (some ⟨g, 0, none⟩) n c bs) (hc : 0 < c) (hf : off + xs.length ≤ n)
    (hs : ∀ t cur, Blk w g t cur → Blk w' g t (splice cur off (xs.map b8))) : OwB w' base (some ⟨g, 0, none⟩) n c (bs.take off ++ xs ++ bs.drop (off + xs.length)) := by
  have hl := h.len
  have hle := h.le
  obtain ⟨g', cur, e, hg, hb, hsz, ht⟩ := h.open_ hc
  simp only [Option.some.injEq, Addr.mk.injEq, and_true] at e
  subst e
  refine OwB.shut (hs _ _ hb) hg (by rw [size_splice _ _ _ (by rw [List.length_map]; omega)]; exact hsz) hle h.2.2.1 ?_ ?_
  · have h1 : cur.toList.take off = (bs.take off).map b8 := by rw [List.map_take, ← ht, List.take_take, Nat.min_eq_left (by omega)]
    have h2 : (cur.toList.drop (off + xs.length)).take (n - (off + xs.length)) = (bs.drop (off + xs.length)).map b8 := by rw [List.map_drop, ← ht, List.drop_take]
    have h3 : (List.take off cur.toList ++ List.map b8 xs).length = off + xs.length := by rw [h1]; simp; omega
    simp only [splice, List.length_map]
    rw [List.take_append, h3, h2, List.take_of_length_le (by omega), h1]
    simp
  · simp; omega

/-- AppendBig at a row of the call's own (or none). -/
theorem appendBig_c {w : World} {base : Nat} {A : Option Addr} {n c : Nat} {bs : List UInt8} (ha : OwB w base A n c bs) (hbase : base ≤ w.heap.size) (hn : n ≤ 140737488353000) {k : Nat} (hk0 : 0 < k) (hk : k ≤ 1024) {x : Nat} (hx : x < 18446744073709551616) :
    Calls Try.prog 53 #[.slice A n c, .int .i64 (k : Int), .int .u64 (x : Int)] w fun e w' => ∃ A' c', e = .returned (.slice A' (n + k) c') ∧ OwB w' base A' (n + k) c' (bs ++ bigB x k) ∧ Below base w w' := by
  have HX := Lib.hid hx
  have HL := Lib.hid ha.len
  clear hx
  go_enter Try.func53, Try.ntmps53
  go_wp2_with (at_builtin; refine wpList_append_mk rfl (.tmp 8) (.tmp 9) rfl rfl ha rfl (by omega) hbase (n + k) rfl ?_; intro A1 c1 w1 h1 q1; have hb1 : Below base w w1 := q1.below ha (Below.refl _ _) (Nat.le_refl _) hbase; have hle1 := h1.le; have hsize1 := q1.grown.size; obtain ⟨g1, cur1, rfl, hg1, hbk1, hsz1, _⟩ := h1.open_ (by omega); have HS1 := Lib.hid hsz1; clear hsz1; have hcut := slice_tail_run g1 (n + k) c1 n k (by omega) (by omega) (by omega))
  refine (putBig_c hbk1 (off := n) (k := k) (c := c1 - n) (Nat.le_trans hle1 HS1.out) (by omega) HX.out).mono ?_
  rintro e w2 ⟨rfl, hb2, hg2, hs2⟩
  have h2 := h1.spliced (w' := w2) (off := n) (xs := bigB x k) (by omega) (by rw [len_bigB]; exact Nat.le_refl _) (fun t cur hb => by
    have e1 : some (Obj.cells cur t (0, 0)) = some (Obj.cells cur1 5 (0, 0)) := (show w1.heap[g1]? = _ from hb).symm.trans hbk1
    simp only [Option.some.injEq, Obj.cells.injEq, and_true] at e1
    obtain ⟨rfl, rfl⟩ := e1
    exact hb2)
  have HS2 := Lib.hid hs2
  clear hs2
  go_wp2_with fail
  go_ret
  refine ⟨_, _, rfl, ?_, hb1.grown hg2 (Nat.le_trans hbase hsize1) (fun k hk => by cases hk; exact hg1)⟩
  rw [List.take_left' HL.out, len_bigB, List.drop_of_length_le (by rw [List.length_append, HL.out, len_zer8]; exact Nat.le_refl _), List.append_nil] at h2
  exact h2
end Go.Proofs.Ytbphoilfiahnpaa
