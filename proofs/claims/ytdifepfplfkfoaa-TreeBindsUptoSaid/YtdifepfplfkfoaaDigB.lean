/-
  Several texts of plain lemmas and contracts, one behind the other: PutBig, Zeros, Concat, Pad, Chunk, Pieces.
-/
import Derived.Test.YtdifepfplfkfoaaDigA
import Derived.Test.YtdifepfplfkfoaaBase
import Derived.WalkMore
import Derived.Deep.RegionHeldLaw

/-
  octets.PutBig, octets.AppendBig: a number as bytes, the highest first.
-/
section
namespace Go.Proofs.Ytdifepfplfkfoaa
open Go.RowKit
set_option linter.unusedVariables false
set_option maxRecDepth 100000

/-- A number as k bytes, the highest first. -/
def bigB (x k : Nat) : List UInt8 := (List.range k).map fun t => UInt8.ofNat (x / 256 ^ (k - 1 - t))
theorem len_bigB (x k : Nat) : (bigB x k).length = k := by simp [bigB]
theorem bigB_get (x k t : Nat) (h : t < k) : (bigB x k)[t]? = some (UInt8.ofNat (x / 256 ^ (k - 1 - t))) := by
  simp [bigB, h]

theorem splice_back (cur : Array Value) (off s : Nat) (vs : List Value) (hs : s < vs.length) (hf : off + vs.length ≤ cur.size) :
    (splice cur (off + (s + 1)) (vs.drop (s + 1))).setIfInBounds (off + s) vs[s] = splice cur (off + s) (vs.drop s) := by
  have h1 : off + (s + 1) + (vs.drop (s + 1)).length ≤ cur.size := by rw [List.length_drop]; omega
  have h2 : off + s + (vs.drop s).length ≤ cur.size := by rw [List.length_drop]; omega
  apply Array.ext_getElem?
  intro j
  rw [Array.getElem?_setIfInBounds, splice_get _ _ _ h2, splice_get _ _ _ h1, size_splice _ _ _ h1]
  rw [List.length_drop, List.length_drop]
  by_cases ha : off + s = j
  · subst ha
    rw [if_pos rfl, if_pos (by omega), if_pos (by omega), Nat.sub_self, List.getElem?_drop, Nat.add_zero, List.getElem?_eq_getElem hs]
  · rw [if_neg ha]
    by_cases hb : off + (s + 1) ≤ j ∧ j < off + vs.length
    · rw [if_pos (by omega), if_pos (by omega), List.getElem?_drop, List.getElem?_drop]
      congr 1
      omega
    · rw [if_neg (by omega), if_neg (by omega)]
theorem splice_none (cur : Array Value) (off : Nat) : splice cur off [] = cur := by
  simp [splice]

theorem putBig_c {w : World} {g : Nat} {t : TypeId} {cur : Array Value} (hb : Blk w g t cur) {off k c : Nat} (hfit : off + k ≤ cur.size) (hk : k ≤ 9223372036854775807) {x : Nat} (hx : x < 18446744073709551616) :
    Calls Try.prog 56 #[.slice (some ⟨g, off, none⟩) k c, .int .u64 (x : Int)] w fun e w' => e = .returned (.tuple #[]) ∧ Blk w' g t (splice cur off ((bigB x k).map b8)) ∧ w.grownBy w' (some g) ∧ w'.heap.size = w.heap.size := by
  have HX := Lib.hid hx
  have HF := Lib.hid hfit
  have HB0 := Lib.hid hb
  clear hb hx
  go_enter Try.func56, Try.ntmps56
  go_wp2_with fail
  go_loopw [1, 4] (fun v1 v4 wr => ∃ r y : Nat, r ≤ k ∧ y < 18446744073709551616 ∧ y = x / 256 ^ (k - r) ∧ v1 = .int .u64 (y : Int) ∧ ((r = 0 ∧ v4 = .int .i64 (-1)) ∨ (∃ s : Nat, r = s + 1 ∧ v4 = .int .i64 (s : Int))) ∧
      Blk wr g t (splice cur (off + r) (((bigB x k).map b8).drop r)) ∧ w.grownBy wr (some g) ∧ wr.heap.size = w.heap.size)
    (fun _ v4 _ => (intOf v4 + 1).toNat)
  case atStart =>
    refine ⟨k, x, Nat.le_refl _, HX.out, by simp, rfl, ?_, ?_, World.grownBy.refl _ _, rfl⟩
    · cases k with
      | zero => exact .inl ⟨rfl, by rfl⟩
      | succ s => exact .inr ⟨s, rfl, by congr 1; omega⟩
    · rw [List.drop_of_length_le (by rw [List.length_map, len_bigB]; exact Nat.le_refl _), splice_none]
      exact HB0.out
  case round =>
    obtain ⟨r, y, hr, hy, hyx, rfl, hcs, hb, hg, hsz⟩ := hrel
    have HY := Lib.hid hyx
    have HB := Lib.hid hb
    have HG := Lib.hid hg
    have HS := Lib.hid hsz
    have hlen : ((bigB x k).map b8).length = k := by rw [List.length_map, len_bigB]
    have HL := Lib.hid hlen
    clear hb hg hsz hyx hlen
    rcases hcs with ⟨rfl, rfl⟩ | ⟨s, rfl, rfl⟩
    · go_wp2_with fail
      go_end0
      refine ⟨rfl, ?_, HG.out, HS.out⟩
      have := HB.out
      rwa [Nat.add_zero, List.drop_zero] at this
    · obtain ⟨v, hv⟩ : ∃ v, (splice cur (off + (s + 1)) (((bigB x k).map b8).drop (s + 1)))[off + s]? = some v :=
        ⟨_, Array.getElem?_eq_getElem (by rw [size_splice _ _ _ (by rw [List.length_drop, HL.out]; omega)]; omega)⟩
      have hc : wr.cell? ⟨g, off + s, none⟩ = some v := by rw [HB.out.cell, hv]
      have hf := HB.out.frozen (off + s)
      have hs0 : (0 : Int) ≤ (s : Int) := by omega
      have hsk : (s : Int) < (k : Int) := by omega
      clear hv
      go_wp2_with fail
      go_roundw
      case rel =>
        have e : Value.int .u8 ((y : Int) % 256) = ((bigB x k).map b8)[s]'(by rw [HL.out]; omega) := by
          have h1 : (bigB x k)[s]'(by rw [len_bigB]; omega) = UInt8.ofNat (x / 256 ^ (k - 1 - s)) := by
            have := bigB_get x k s (by omega)
            rw [List.getElem?_eq_getElem (by rw [len_bigB]; omega)] at this
            exact Option.some.inj this
          rw [List.getElem_map, h1, b8, UInt8.toNat_ofNat', HY.out, show k - (s + 1) = k - 1 - s from by omega]
          congr 1
        rw [e]
        refine ⟨s, y / 256, by omega, by omega, ?_, ?_, ?_, ?_, grownBy_trans HG.out (grownBy_setCell _ _ _ _), by rw [← HS.out]; simp [World.setCell]⟩
        · rw [HY.out, Nat.div_div_eq_div_mul, ← Nat.pow_succ, show k - s = (k - (s + 1)).succ from by omega]
        · rfl
        · cases s with
          | zero => exact .inl ⟨rfl, rfl⟩
          | succ t => exact .inr ⟨t, rfl, by rw [show ((t + 1 : Nat) : Int) - 1 = (t : Int) from by omega]⟩
        · rw [← splice_back _ _ _ _ (by rw [HL.out]; omega) (by rw [HL.out]; exact HF.out)]
          exact HB.out.set_ _ _
      case measure => simp only [intOf]; omega
end Go.Proofs.Ytdifepfplfkfoaa
end

/-
  'append(s, make([]byte, m)...)' at a slice of the call's own; octets.AppendBig.
-/
section
namespace Go.Proofs.Ytdifepfplfkfoaa
open Go.RowKit
set_option linter.unusedVariables false
set_option maxRecDepth 100000

theorem zeroV8 (W : World) : (zeroValue 5).run Try.prog W = .ok (.int .u8 0) W := by kernel_rfl
def zer8 (m : Nat) : List UInt8 := List.replicate m 0
theorem len_zer8 (m : Nat) : (zer8 m).length = m := by simp [zer8]

/-- 's[lo:]' of a row that stands at its block's beginning, lo below the capacity. -/
theorem slice_tail_run (g n c lo m : Nat) (h1 : lo ≤ n) (h2 : lo < c) (hm : n - lo = m) (W : World) : (Instr.sliceAt 22 (.slice (some ⟨g, 0, none⟩) n c) (some (.int .i64 (lo : Int))) none none).run Try.prog W = .ok (.slice (some ⟨g, lo, none⟩) m (c - lo)) W := by
  subst hm
  have he : Try.prog.underlying 22 = some (.slice (Try.prog.elem 22)) := by rw [bytes_elem]; exact Try.underlying22
  have hs : (sizeOf (Try.prog.elem 22)).run Try.prog W = .ok 1 W := by rw [bytes_elem]; kernel_rfl
  rw [run_sliceAt_slice W _ _ _ _ _ he, run_slice_l W _ _ n c he .i64 lo (by omega) (by omega), hs]
  have e : c ≠ lo := by omega
  simp [Result.andThen, sliced, Addr.add, e]
  omega

theorem run_append_mk {w : World} {base : Nat} {ty : TypeId} {A : Option Addr} {n c : Nat} {bs : List UInt8} (hown : OwB w base A n c bs) {m : Nat} (hb : n + m ≤ 140737488355328) (hbase : base ≤ w.heap.size) :
    ∃ A' c' w', (Builtin.append_ #[22, 3] ty #[.slice A n c, .int .i64 (m : Int)]).run Try.prog w = .ok (.slice A' (n + m) c') w' ∧ OwB w' base A' (n + m) c' (bs ++ zer8 m) ∧ Went w w' A n c m A' c' := by
  obtain ⟨i, hi, hz0, hz1, hz2⟩ := info_parts bytes_info
  have hwr : IntKind.i64.wrap (m : Int) = (m : Int) := by rw [IntKind.wrap_i64]; omega
  have hm0 : ¬ ((m : Int) < 0) := by omega
  have hmb : ¬ ((281474976710656 : Int) < (m : Int)) := by omega
  have hzc : ∀ k, Builtin.zeroCells (Value.cells (.int .u8 0)) k = ((zer8 k).map b8).toArray := fun k => by
    apply Array.ext_getElem?
    intro j
    simp [Builtin.zeroCells, Value.cells, Nat.mod_one, b8_def, zer8]
    by_cases h : j < k <;> simp [h]
  have hz0' : zer8 0 = [] := rfl
  have hw0 : IntKind.i64.wrap 0 = 0 := rfl
  have hlen : bs.length = n := hown.len
  by_cases hroom : n + m ≤ c
  · rcases Nat.eq_zero_or_pos c with hc0 | hc0
    · obtain rfl : n = 0 := by omega
      obtain rfl : m = 0 := by omega
      subst hc0
      obtain rfl : bs = [] := List.eq_nil_of_length_eq_zero hlen
      refine ⟨A, 0, w, ?_, OwB.nil _ _ _, .inl ⟨by omega, rfl, rfl, World.grownBy.refl _ _⟩⟩
      cases A with
      | none => simp [hw0, Builtin.append_, run_underlying Try.underlying22, run_underlying Try.underlying3, sizeOf, typeInfo, hi, hz2, asInt, asIntOf]
      | some a => simp [hw0, Builtin.append_, run_underlying Try.underlying22, run_underlying Try.underlying3, sizeOf, typeInfo, hi, hz2, asInt, asIntOf, storeCells]
    · obtain ⟨g, cur, rfl, hg, hbk, hs, htk⟩ := hown.open_ hc0
      have hfit : n + ((zer8 m).map b8).length ≤ cur.size := by rw [List.length_map, len_zer8]; omega
      have hst := run_storeCells_at Try.prog g n 5 ((zer8 m).map b8) 0 cur w hbk (by simpa using hfit) (b8_one _)
      simp only [Nat.add_zero] at hst
      refine ⟨some ⟨g, 0, none⟩, c, w.setRow g (cur.toList.take n ++ (zer8 m).map b8 ++ cur.toList.drop (n + ((zer8 m).map b8).length)).toArray, ?_, ?_, .inl ⟨hroom, rfl, rfl, ?_⟩⟩
      · by_cases hm : m = 0
        · subst hm
          simp only [hz0', List.map_nil] at hst
          have hroom0 : n ≤ c := hown.le
          simp [hw0, Builtin.append_, run_underlying Try.underlying22, run_underlying Try.underlying3, sizeOf, typeInfo, hi, hz1, hz2, asInt, asIntOf, hroom0, Addr.add_lit, hz0', hst]
        · simp [Builtin.append_, run_underlying Try.underlying22, run_underlying Try.underlying3, sizeOf, typeInfo, zeroValue, hi, hz0, hz1, hz2, asInt, asIntOf, hwr, hm0, hmb, hroom, Addr.add_lit, hm, hzc, hst]
      · refine OwB.shut (setRow_heap w g cur _ _ _ hbk) hg ?_ hroom hown.2.2.1 ?_ (by rw [List.length_append, hlen, len_zer8])
        · simp only [List.size_toArray, List.length_append, List.length_take, List.length_drop, Array.length_toList]
          omega
        · rw [htk, ← List.map_append]
          exact List.take_left' (by rw [List.length_map, List.length_append, hlen, len_zer8])
      · exact ⟨rfl, rfl, rfl, by simp, fun k _ hk => setRow_other w g k _ (fun e => hk (by rw [wrote, if_neg (by omega)]; simp [e]))⟩
  · have hmne : ¬ m = 0 := by have := hown.le; omega
    have h63 : n + m ≤ maxLen := by simp only [maxLen]; omega
    have h63' : ¬ (9223372036854775807 < ((n : Int) + (m : Int))) := by omega
    have h48' : ¬ (281474976710656 < Builtin.nextslicecap (n + m) c) := by have := growslice_fits (old := c) (need := n + m) (bytes := 1) (by omega) (by omega); omega
    have hge := grownCap_ge w (n + m) c 5
    have hcm : grownCap w (n + m) c 5 ≤ maxLen := grownCap_le_maxLen w (n + m) c _ h63
    have hold : (Builtin.firstCells 1 n (.slice A n c)).run Try.prog w.drew = .ok (bs.map b8).toArray w.drew := run_firstCells_sl (P := Try.prog) hown.sl w.drew (fun _ => by simp)
    refine ⟨some ⟨w.heap.size, 0, none⟩, grownCap w (n + m) c 5, w.drew.alloc (.cells (((bs ++ zer8 m).map b8).toArray ++ Builtin.zeroCells (Value.cells (.int .u8 0)) (grownCap w (n + m) c 5 - (n + m))) 5), ?_, ?_, .inr ⟨by omega, rfl, hge, ?_⟩⟩
    · simp [Builtin.append_, run_underlying Try.underlying22, run_underlying Try.underlying3, sizeOf, typeInfo, zeroValue, hi, hz0, hz1, hz2, asInt, asIntOf, hwr, hm0, hmb, h48', hroom, h63', Question.forced, hold, newRow, grownCap, hmne, hzc]
    · refine OwB.shut (Blk.new w.drew _ _) hbase ?_ hge hcm ?_ (by rw [List.length_append, hlen, len_zer8])
      · simp only [Array.size_append, List.size_toArray, size_zeroCells, List.length_map, List.length_append, hlen, len_zer8, show (Value.cells (.int .u8 0)).size = 1 from rfl]
        omega
      · simp only [Array.toList_append]
        rw [List.take_left']
        simp [hlen, len_zer8]
    · exact ⟨rfl, rfl, rfl, by simp, fun k hk _ => Below.heap_alloc w.drew _ k hk⟩

theorem wpList_append_mk {ops : Array Oper} {rest : List Oper} {o : Oper} {a : Act} {Q : Exit → Act → World → Prop} {w : World} (hgd : o.guard = none) (s x : Operand)
    (ho : o.op = .call { callee := .builtin .append, args := #[s, x], argTypes := #[22, 3] })
    {base : Nat} {A : Option Addr} {n c : Nat} {bs : List UInt8} (hs : a.eval s = .slice A n c) (hown : OwB w base A n c bs) {m : Nat} (hx : a.eval x = .int .i64 (m : Int)) (hb : n + m ≤ 140737488355328) (hbase : base ≤ w.heap.size) (k : Nat) (hk : n + m = k)
    (h : ∀ A' c' w', OwB w' base A' k c' (bs ++ zer8 m) → Went w w' A n c m A' c' → wpList Try.prog ops Q rest (a.put o.dst (.slice A' k c')) w') :
    wpList Try.prog ops Q (o :: rest) a w := by
  subst hk
  refine wpList_plain hgd fun K hK => ?_
  obtain ⟨A', c', w', hrun, h2, h3⟩ := run_append_mk (ty := o.type) hown hb hbase
  unfold Oper.wp execOp
  simp only [ho, resolve, invoke, builtin, Sem.run_bind, Sem.run_pure, Result.andThen_ok, List.map_toArray, List.map_cons, List.map_nil, hs, hx, hrun]
  exact hK _ _ (h A' c' w' h2 h3)

/-- A part of a row of the call's own is written: the row holds what is written there. -/
theorem OwB.spliced {w w' : World} {base g n c : Nat} {bs xs : List UInt8} {off : Nat} (h : OwB w base (some ⟨g, 0, none⟩) n c bs) (hc : 0 < c) (hf : off + xs.length ≤ n)
    (hs : ∀ t cur, Blk w g t cur → Blk w' g t (splice cur off (xs.map b8))) : OwB w' base (some ⟨g, 0, none⟩) n c (bs.take off ++ xs ++ bs.drop (off + xs.length)) := by
  have hl := h.len
  have hle := h.le
  obtain ⟨g', cur, e, hg, hb, hsz, ht⟩ := h.open_ hc
  simp only [Option.some.injEq, Addr.mk.injEq, and_true] at e
  subst e
  refine OwB.shut (hs _ _ hb) hg (by rw [size_splice _ _ _ (by rw [List.length_map]; omega)]; exact hsz) hle h.2.2.1 ?_ ?_
  · have h1 : cur.toList.take off = (bs.take off).map b8 := by rw [List.map_take, ← ht, List.take_take, Nat.min_eq_left (by omega)]
    have h2 : (cur.toList.drop (off + xs.length)).take (n - (off + xs.length)) = (bs.drop (off + xs.length)).map b8 := by rw [List.map_drop, ← ht, List.drop_take]
    have h3 : (List.take off cur.toList ++ List.map b8 xs).length = off + xs.length := by rw [h1]; simp; omega
    simp only [splice, List.length_map]
    rw [List.take_append, h3, h2, List.take_of_length_le (by omega), h1]
    simp
  · simp; omega

/-- AppendBig at a row of the call's own (or none). -/
theorem appendBig_c {w : World} {base : Nat} {A : Option Addr} {n c : Nat} {bs : List UInt8} (ha : OwB w base A n c bs) (hbase : base ≤ w.heap.size) (hn : n ≤ 140737488353000) {k : Nat} (hk0 : 0 < k) (hk : k ≤ 1024) {x : Nat} (hx : x < 18446744073709551616) :
    Calls Try.prog 77 #[.slice A n c, .int .i64 (k : Int), .int .u64 (x : Int)] w fun e w' => ∃ A' c', e = .returned (.slice A' (n + k) c') ∧ OwB w' base A' (n + k) c' (bs ++ bigB x k) ∧ Below base w w' := by
  have HX := Lib.hid hx
  have HL := Lib.hid ha.len
  clear hx
  go_enter Try.func77, Try.ntmps77
  go_wp2_with (at_builtin; refine wpList_append_mk rfl (.tmp 8) (.tmp 9) rfl rfl ha rfl (by omega) hbase (n + k) rfl ?_; intro A1 c1 w1 h1 q1; have hb1 : Below base w w1 := q1.below ha (Below.refl _ _) (Nat.le_refl _) hbase; have hle1 := h1.le; have hsize1 := q1.grown.size; obtain ⟨g1, cur1, rfl, hg1, hbk1, hsz1, _⟩ := h1.open_ (by omega); have HS1 := Lib.hid hsz1; clear hsz1; have hcut := slice_tail_run g1 (n + k) c1 n k (by omega) (by omega) (by omega))
  refine (putBig_c hbk1 (off := n) (k := k) (c := c1 - n) (Nat.le_trans hle1 HS1.out) (by omega) HX.out).mono ?_
  rintro e w2 ⟨rfl, hb2, hg2, hs2⟩
  have h2 := h1.spliced (w' := w2) (off := n) (xs := bigB x k) (by omega) (by rw [len_bigB]; exact Nat.le_refl _) (fun t cur hb => by
    have e1 : some (Obj.cells cur t (0, 0)) = some (Obj.cells cur1 5 (0, 0)) := (show w1.heap[g1]? = _ from hb).symm.trans hbk1
    simp only [Option.some.injEq, Obj.cells.injEq, and_true] at e1
    obtain ⟨rfl, rfl⟩ := e1
    exact hb2)
  have HS2 := Lib.hid hs2
  clear hs2
  go_wp2_with fail
  go_ret
  refine ⟨_, _, rfl, ?_, hb1.grown hg2 (Nat.le_trans hbase hsize1) (fun k hk => by cases hk; exact hg1)⟩
  rw [List.take_left' HL.out, len_bigB, List.drop_of_length_le (by rw [List.length_append, HL.out, len_zer8]; exact Nat.le_refl _), List.append_nil] at h2
  exact h2
end Go.Proofs.Ytdifepfplfkfoaa
end

/-
  slices.Grow at nil, slices.Concat: rows joined.
-/
section
namespace Go.Proofs.Ytdifepfplfkfoaa
open Go.RowKit
set_option linter.unusedVariables false
set_option maxRecDepth 100000

theorem growNil_c (k : Nat) (hk : k ≤ 140737488353000) (w : World) :
    Calls Try.prog 70 #[.slice none 0 0, .int .i64 (k : Int)] w fun e w' => ∃ A' c', e = .returned (.slice A' 0 c') ∧ OwB w' w.heap.size A' 0 c' [] ∧ k ≤ c' ∧ Below w.heap.size w w' := by
  have hn0 := OwB.nil w w.heap.size none
  rcases Nat.eq_zero_or_pos k with h0 | h0
  · subst h0
    go_enter Try.func70, Try.ntmps70
    go_wp2_with fail
    go_ret
    exact ⟨none, 0, rfl, hn0, Nat.le_refl _, Below.refl _ _⟩
  · go_enter Try.func70, Try.ntmps70
    go_wp2_with (at_builtin; refine wpList_append_mk (m := k) rfl (.tmp 20) (.tmp 21) rfl rfl hn0 rfl (by omega) (Nat.le_refl _) k (by omega) ?_; intro A1 c1 w1 h1 q1; have hle1 := h1.le; have hcp1 := h1.cap; have hb1 : Below w.heap.size w w1 := q1.below hn0 (Below.refl _ _) (Nat.le_refl _) (Nat.le_refl _))
    go_ret
    refine ⟨A1, c1, rfl, ?_, hle1, hb1⟩
    have := h1.trim (k := 0) (Nat.zero_le _)
    rwa [List.take_zero] at this

/-- A row that is to be joined: the slice, and the bytes that it reads as. -/
structure Part where
  A : Option Addr
  n : Nat
  c : Nat
  bs : List UInt8
def Part.v (p : Part) : Value := .slice p.A p.n p.c
def total (ps : List Part) : Nat := (ps.map (·.n)).sum
def joined (ps : List Part) : List UInt8 := (ps.map (·.bs)).flatten
theorem total_snoc (ps : List Part) (p : Part) : total (ps ++ [p]) = total ps + p.n := by simp [total]
theorem joined_snoc (ps : List Part) (p : Part) : joined (ps ++ [p]) = joined ps ++ p.bs := by simp [joined]
theorem total_append (a b : List Part) : total (a ++ b) = total a + total b := by simp [total]
theorem total_take_le (ps : List Part) (k : Nat) : total (ps.take k) ≤ total ps := by
  have h : total ps = total (ps.take k) + total (ps.drop k) := by
    have e : total ps = total (ps.take k ++ ps.drop k) := by rw [List.take_append_drop]
    exact e.trans (total_append _ _)
  omega

set_option maxHeartbeats 1000000 in
theorem concat_c {w : World} {B : Nat} {A : Option Addr} {n c : Nat} (ps : List Part) (ha : Sl w B 1 A n c (ps.map Part.v)) (hB : B ≤ w.heap.size) (hps : ∀ p ∈ ps, SlB w B p.A p.n p.c p.bs) (ht : total ps ≤ 140737488353000) :
    Calls Try.prog 53 #[.slice A n c] w fun e w' => ∃ A' c', e = .returned (.slice A' (total ps) c') ∧ OwB w' w.heap.size A' (total ps) c' (joined ps) ∧ Below w.heap.size w w' := by
  have hl : ps.length = n := by have := ha.1; simpa using this
  have hcm : c ≤ 9223372036854775807 := ha.2.2.1
  have hnc := ha.2.1
  have HL := Lib.hid hl
  have HPS := Lib.hid hps
  have HT := Lib.hid ht
  -- the cells, where there is a row
  have hcell : ∃ b off, (0 < n → A = some ⟨b, off, none⟩ ∧ b < B ∧ ∀ (j : Nat) (p : Part), ps[j]? = some p → w.cell? ⟨b, off + j, none⟩ = some p.v) := by
    rcases Nat.eq_zero_or_pos n with h0 | h0
    · exact ⟨0, 0, fun h => absurd h (by omega)⟩
    · obtain ⟨b, off, e, hb, hj⟩ := ha.2.2.2 (by omega)
      exact ⟨b, off, fun _ => ⟨e, hb, fun j p hp => hj j _ (by rw [List.getElem?_map, hp]; rfl)⟩⟩
  obtain ⟨b, off, hcl⟩ := hcell
  have HC := Lib.hid hcl
  clear hl hps ha ht hcl
  go_enter Try.func53, Try.ntmps53
  go_wp2_with fail
  go_loop [3, 11] (fun v3 v11 => ∃ k s : Nat, k ≤ n ∧ v11 = .int .i64 (k : Int) ∧ v3 = .int .i64 (s : Int) ∧ s = total (ps.take k)) (fun _ v11 => n - (intOf v11).toNat)
  case atStart => exact ⟨0, 0, by omega, rfl, rfl, by simp [total]⟩
  case round =>
    obtain ⟨k, s, hk, rfl, rfl, hs⟩ := hrel
    have hsl : s ≤ 140737488353000 := by rw [hs]; exact Nat.le_trans (total_take_le _ _) HT.out
    have HS := Lib.hid hs
    clear hs
    by_cases hlt : k < n
    · obtain ⟨rfl, _, hj⟩ := HC.out (by omega)
      obtain ⟨p, hp⟩ : ∃ p, p = ps[k]'(by rw [HL.out]; exact hlt) := ⟨_, rfl⟩
      have hc := hj k p (by rw [hp]; exact List.getElem?_eq_getElem _)
      unfold Part.v at hc
      have hnx : total (ps.take (k + 1)) = s + p.n := by rw [List.take_succ_eq_append_getElem (by rw [HL.out]; exact hlt), total_snoc, ← hp, HS.out]
      have hle : s + p.n ≤ 140737488353000 := by rw [← hnx]; exact Nat.le_trans (total_take_le _ _) HT.out
      have HN := Lib.hid hnx
      have hik : (k : Int) < (n : Int) := by omega
      clear hj hp hnx
      go_wp2_with fail
      go_round
      case rel => exact ⟨k + 1, s + p.n, by omega, by go_num, by go_num, HN.out.symm⟩
      case measure => simp [intOf]; omega
    · obtain rfl : k = n := by omega
      have hst : s = total ps := by rw [HS.out, List.take_of_length_le (by rw [HL.out]; exact Nat.le_refl _)]
      have HST := Lib.hid hst
      clear hst HS
      go_wp2_with fail
      refine (growNil_c s hsl w).mono ?_
      rintro e w1 ⟨A1, c1, rfl, h1, hc1, hb1⟩
      have H1 := Lib.hid h1
      clear h1
      go_wp2_with fail
      go_loopw [6, 27] (fun v6 v27 wr => ∃ (k' s' : Nat) (A' : Option Addr) (c' : Nat), k' ≤ k ∧ v27 = .int .i64 (k' : Int) ∧ v6 = .slice A' s' c' ∧ s' = total (ps.take k') ∧ OwB wr w.heap.size A' s' c' (joined (ps.take k')) ∧ Below w.heap.size w wr) (fun _ v27 _ => k - (intOf v27).toNat)
      case atStart => exact ⟨0, 0, A1, c1, by omega, rfl, rfl, by simp [total], by simpa [joined] using H1.out, hb1⟩
      case round =>
        clear H1
        obtain ⟨k', s', A', c', hk', rfl, rfl, hs', ho, hb⟩ := hrel
        have hz := hb.size
        have HO := Lib.hid ho
        have HS' := Lib.hid hs'
        clear ho hs'
        by_cases hlt' : k' < k
        · obtain ⟨rfl, hbB, hj⟩ := HC.out (by omega)
          obtain ⟨p, hp⟩ : ∃ p, p = ps[k']'(by rw [HL.out]; exact hlt') := ⟨_, rfl⟩
          have hc : wr.cell? ⟨b, off + k', none⟩ = some p.v := (hb.cell (p := ⟨b, off + k', none⟩) (Nat.lt_of_lt_of_le hbB hB)).trans (hj k' p (by rw [hp]; exact List.getElem?_eq_getElem _))
          unfold Part.v at hc
          have hnx : total (ps.take (k' + 1)) = s' + p.n := by rw [List.take_succ_eq_append_getElem (by rw [HL.out]; exact hlt'), total_snoc, ← hp, HS'.out]
          have hjx : joined (ps.take (k' + 1)) = joined (ps.take k') ++ p.bs := by rw [List.take_succ_eq_append_getElem (by rw [HL.out]; exact hlt'), joined_snoc, ← hp]
          have hle : s' + p.n ≤ 140737488353000 := by rw [← hnx]; exact Nat.le_trans (total_take_le _ _) HT.out
          have hpr : SlB wr B p.A p.n p.c p.bs := (HPS.out p (by rw [hp]; exact List.getElem_mem _)).below (hb.mono hB)
          have HN := Lib.hid hnx
          have HJ := Lib.hid hjx
          have HP := Lib.hid hpr
          have hik : (k' : Int) < (k : Int) := by omega
          clear hj hp hnx hjx hpr
          go_wp2_with (at_builtin; refine wpList_append8 rfl (.tmp 31) (.tmp 32) rfl rfl HO.out rfl HP.out (by omega) hz (s' + p.n) rfl ?_; intro A9 c9 w9 h9 q9)
          go_roundw
          case rel =>
            refine ⟨k' + 1, s' + p.n, A9, c9, by omega, by go_num, rfl, HN.out.symm, ?_, q9.below HO.out hb (Nat.le_refl _) hz⟩
            rw [HJ.out]
            exact h9
          case measure => simp [intOf]; omega
        · obtain rfl : k' = k := by omega
          have e1 : s' = total ps := by rw [HS'.out, List.take_of_length_le (by rw [HL.out]; exact Nat.le_refl _)]
          have e2 : joined (ps.take k') = joined ps := by rw [List.take_of_length_le (by rw [HL.out]; exact Nat.le_refl _)]
          have HE1 := Lib.hid e1
          have HE2 := Lib.hid e2
          clear e1 e2
          go_wp2_with fail
          go_ret
          refine ⟨A', c', by rw [← HE1.out]; rfl, ?_, hb⟩
          rw [← HE1.out, ← HE2.out]
          exact HO.out
end Go.Proofs.Ytdifepfplfkfoaa
end

/-
  digest.Pad, and the reference's: what is put behind a text.
-/
section
namespace Go.Proofs.Ytdifepfplfkfoaa
open Go.RowKit
set_option linter.unusedVariables false
set_option maxRecDepth 100000

/-- The length that is written down. -/
def padN (n : Int) : Nat := if n < 0 ∨ 1099511627776 < n then 0 else n.toNat
/-- How many noughts. -/
def padZ (m : Nat) : Nat := (119 - m % 64) % 64
/-- What is put behind a text of m bytes. -/
def padB (m : Nat) : List UInt8 := [128] ++ zer8 (padZ m) ++ bigB (m * 8) 8
theorem len_padB (m : Nat) : (padB m).length = 9 + padZ m := by
  simp only [padB, List.length_append, len_zer8, len_bigB, List.length_cons, List.length_nil]
  omega
theorem padN_le (n : Int) : padN n ≤ 1099511627776 := by unfold padN; split <;> omega
theorem padZ_lt (m : Nat) : padZ m < 64 := by unfold padZ; omega

set_option maxHeartbeats 400000 in
theorem pad_c (n : Int) (hn : (Lit.int .i64 n).wf = true) (w : World) :
    Calls Try.prog 69 #[.int .i64 n] w fun e w' => ∃ A c, e = .returned (.slice A (9 + padZ (padN n)) c) ∧ OwB w' w.heap.size A (9 + padZ (padN n)) c (padB (padN n)) ∧ Below w.heap.size w w' := by
  have hx := i64_bd hn
  clear hn
  have hl := padN_le n
  have hz := padZ_lt (padN n)
  obtain ⟨m, hm⟩ : ∃ m, m = padN n := ⟨_, rfl⟩
  rw [← hm] at hl hz ⊢
  have HM := Lib.hid hm
  obtain ⟨z, hzz⟩ : ∃ z, z = padZ m := ⟨_, rfl⟩
  have HZ := Lib.hid hzz
  have hw0 : OwB (w.alloc (.cells #[.int .u8 128] 5)) w.heap.size (some ⟨w.heap.size, 0, none⟩) 1 1 [128] := OwB.lit w w.heap.size _ [128] 1 (Nat.le_refl _) rfl (by simp [maxLen]) rfl
  have hb0 : Below w.heap.size w (w.alloc (.cells #[.int .u8 128] 5)) := (Below.refl _ _).alloc (Nat.le_refl _) _
  have hmz : (119 - (m : Int) % 64) % 64 = (z : Int) := by rw [hzz, padZ]; omega
  have hm8 : (m : Int) * 8 % 18446744073709551616 = ((m * 8 : Nat) : Int) := by omega
  rw [← hzz] at hz
  have hcase : n < 0 ∧ m = 0 ∨ 1099511627776 < n ∧ m = 0 ∨ n = (m : Int) := by
    rw [hm]; unfold padN; split <;> omega
  clear hm hzz
  rcases hcase with ⟨h1, rfl⟩ | ⟨h1, rfl⟩ | rfl
  · obtain rfl : z = 55 := HZ.out
    clear hmz hm8
    go_enter Try.func69, Try.ntmps69
    go_wp2_with (at_builtin; refine wpList_append_mk (m := 55) rfl (.tmp 15) (.tmp 16) rfl rfl hw0 rfl (by omega) (by simp) 56 rfl ?_; intro A1 c1 w1 h1' q1; have hb1 : Below w.heap.size w w1 := q1.below hw0 hb0 (Nat.le_refl _) (by simp))
    refine (appendBig_c (k := 8) (x := 0) h1' hb1.size (by omega) (by omega) (by omega) (by omega)).mono ?_
    rintro e w2 ⟨A2, c2, rfl, h2, hb2⟩
    go_wp2_with fail
    go_ret
    exact ⟨A2, c2, rfl, h2, hb1.trans hb2⟩
  · obtain rfl : z = 55 := HZ.out
    have h0 : 0 ≤ n := by omega
    clear hmz hm8
    go_enter Try.func69, Try.ntmps69
    go_wp2_with (at_builtin; refine wpList_append_mk (m := 55) rfl (.tmp 15) (.tmp 16) rfl rfl hw0 rfl (by omega) (by simp) 56 rfl ?_; intro A1 c1 w1 h1' q1; have hb1 : Below w.heap.size w w1 := q1.below hw0 hb0 (Nat.le_refl _) (by simp))
    refine (appendBig_c (k := 8) (x := 0) h1' hb1.size (by omega) (by omega) (by omega) (by omega)).mono ?_
    rintro e w2 ⟨A2, c2, rfl, h2, hb2⟩
    go_wp2_with fail
    go_ret
    exact ⟨A2, c2, rfl, h2, hb1.trans hb2⟩
  · have h0 : (0 : Int) ≤ (m : Int) := by omega
    have h1 : (m : Int) ≤ 1099511627776 := by omega
    have HMZ := Lib.hid hmz
    clear hmz
    go_enter Try.func69, Try.ntmps69
    go_wp2_with (at_builtin; refine wpList_append_mk (m := z) rfl (.tmp 15) (.tmp 16) rfl rfl hw0 (congrArg (Value.int .i64) HMZ.out) (by omega) (by simp) (1 + z) rfl ?_; intro A1 c1 w1 h1' q1; have hb1 : Below w.heap.size w w1 := q1.below hw0 hb0 (Nat.le_refl _) (by simp))
    refine (appendBig_c (k := 8) (x := m * 8) h1' hb1.size (by omega) (by omega) (by omega) (by omega)).mono ?_
    rintro e w2 ⟨A2, c2, rfl, h2, hb2⟩
    go_wp2_with fail
    go_ret
    have e1 : 1 + z + 8 = 9 + padZ m := by rw [← HZ.out]; omega
    refine ⟨A2, c2, ?_, ?_, hb1.trans hb2⟩
    · rw [← e1]; rfl
    · rw [← e1, padB, ← HZ.out]; exact h2
end Go.Proofs.Ytdifepfplfkfoaa
end

/-
  slices.Chunk at pieces of 64 bytes, of a row whose length is a multiple of 64: its iterator.
-/
section
namespace Go.Proofs.Ytdifepfplfkfoaa
open Go.RowKit Go.Shelf
set_option linter.unusedVariables false
set_option maxRecDepth 100000
attribute [local go_sem] Oper.semAt_some

theorem chunk_c (A : Option Addr) (n c : Nat) (w : World) :
    Calls Try.prog 68 #[.slice A n c, .int .i64 64] w fun e w' => e = .returned (.func (.func 76) #[] #[.pointer (some ⟨w.heap.size, 0, none⟩), .pointer (some ⟨w.heap.size + 1, 0, none⟩)]) ∧
      (w.alloc (.cells #[.slice A n c] 22)).alloc (.cells #[.int .i64 64] 3) = w' := by
  go_enter Try.func68, Try.ntmps68
  go_wp2_with fail
  go_ret
  exact ⟨rfl, rfl⟩

/-- 's[i:j:j]'. -/
theorem slice3_run (g off n c i j m : Nat) (h1 : i < j) (h2 : j ≤ c) (hm : j - i = m) (I J : Int) (hI : I = i) (hJ : J = j) (W : World) :
    (Instr.sliceAt 22 (.slice (some ⟨g, off, none⟩) n c) (some (.int .i64 I)) (some (.int .i64 J)) (some (.int .i64 J))).run Try.prog W = .ok (.slice (some ⟨g, off + i, none⟩) m m) W := by
  subst hm hI hJ
  have he : Try.prog.underlying 22 = some (.slice (Try.prog.elem 22)) := by rw [bytes_elem]; exact Try.underlying22
  have hs : (sizeOf (Try.prog.elem 22)).run Try.prog W = .ok 1 W := by rw [bytes_elem]; kernel_rfl
  rw [run_sliceAt_slice W _ _ _ _ _ he, run_slice_lhm W _ _ n c he .i64 .i64 .i64 (i : Int) (j : Int) (j : Int) (by omega) (by omega) (by omega) (by omega), hs]
  have e : j ≠ i := by omega
  simp [Result.andThen, sliced, Addr.add, e]
/-- 's[i:]'. -/
theorem slice1_run (g off n c i : Nat) (h1 : i ≤ n) (h2 : i < c) (W : World) :
    (Instr.sliceAt 22 (.slice (some ⟨g, off, none⟩) n c) (some (.int .i64 (i : Int))) none none).run Try.prog W = .ok (.slice (some ⟨g, off + i, none⟩) (n - i) (c - i)) W := by
  have he : Try.prog.underlying 22 = some (.slice (Try.prog.elem 22)) := by rw [bytes_elem]; exact Try.underlying22
  have hs : (sizeOf (Try.prog.elem 22)).run Try.prog W = .ok 1 W := by rw [bytes_elem]; kernel_rfl
  rw [run_sliceAt_slice W _ _ _ _ _ he, run_slice_l W _ _ n c he .i64 (i : Int) (by omega) (by omega), hs]
  have e : c ≠ i := by omega
  simp [Result.andThen, sliced, Addr.add, e]

/-- What has come: the numbers of the first k pieces. -/
def upTo (k : Nat) : List Nat := List.range k
theorem upTo_succ (k : Nat) : upTo (k + 1) = upTo k ++ [k] := by simp [upTo, List.range_succ]
theorem len_upTo (k : Nat) : (upTo k).length = k := by simp [upTo]

set_option maxHeartbeats 2000000 in
theorem chunk_iter {w : World} {p1 p2 g off N c : Nat} (b1 : Blk w p1 22 #[.slice (some ⟨g, off, none⟩) (64 * N) c]) (b2 : Blk w p2 3 #[.int .i64 64])
    (hc : 64 * N ≤ c) (hcn : 64 * N ≤ 9223372036854775000) (hcm : c ≤ 9223372036854775807) :
    Iter Try.prog 76 #[.pointer (some ⟨p1, 0, none⟩), .pointer (some ⟨p2, 0, none⟩)] (fun j : Nat => #[Value.slice (some ⟨g, off + 64 * j, none⟩) 64 64]) (fun k => k ≠ p1 ∧ k ≠ p2)
      (fun pre x W => x = pre.length ∧ x < N) (fun xs => xs = upTo N) (fun pre => ∃ k, k < N ∧ pre = upTo (k + 1)) w := by
  intro l J Jx O W hW hJ hJx hO hY h0
  refine callsIn_of_wp Try.func76 rfl trivial ?_ rfl
  simp only [Try.ntmps76, List.size_toArray, List.length_cons, List.length_nil, Nat.reduceAdd, Nat.reduceSub, Array.replicate_succ, Array.replicate_zero, List.push_toArray, List.append_toArray, List.nil_append, List.cons_append]
  have B1 := b1.below hW b1.lt
  have B2 := b2.below hW b2.lt
  obtain ⟨n, hn⟩ : ∃ n, n = 64 * N := ⟨_, rfl⟩
  rw [← hn] at hc hcn B1
  have HN := Lib.hid hn
  have HY := Lib.hid hY
  have HB1 := Lib.hid B1
  have HB2 := Lib.hid B2
  have HJ := Lib.hid hJ
  have ho1 : ¬ O p1 := fun h => (hO _ h).1.1 rfl
  have ho2 : ¬ O p2 := fun h => (hO _ h).1.2 rfl
  clear hn hY b1 b2 B1 B2 hW hJ hO
  gi_wp2
  gi_loopw [4] (fun v4 wr => ∃ (k i : Nat) (O : Nat → Prop), k ≤ N ∧ i = 64 * k ∧ i ≤ n ∧ v4 = .int .i64 (i : Int) ∧ J O (upTo k) wr ∧ ¬ O p1 ∧ ¬ O p2 ∧ Blk wr p1 22 #[.slice (some ⟨g, off, none⟩) n c] ∧ Blk wr p2 3 #[.int .i64 64]) (fun v4 _ => n - (intOf v4).toNat)
  case atStart => exact ⟨0, 0, O, by omega, rfl, by omega, rfl, h0, ho1, ho2, HB1.out, HB2.out⟩
  case round =>
    clear HB1 HB2 ho1 ho2 h0
    obtain ⟨k, i, O, hk, hi, hin, rfl, hj, ho1, ho2, C1, C2⟩ := hrel
    have d1 : wr.cell? ⟨p1, 0, none⟩ = some (.slice (some ⟨g, off, none⟩) n c) := by rw [C1.cell]; rfl
    have d2 : wr.cell? ⟨p2, 0, none⟩ = some (.int .i64 64) := by rw [C2.cell]; rfl
    have HC1 := Lib.hid C1
    have HC2 := Lib.hid C2
    clear C1 C2
    by_cases hlt : k < N
    · have hi64 : i + 64 ≤ n := by have := HN.out; omega
      have hil : (i : Int) < (n : Int) := by omega
      have hs1 := slice1_run g off n c i (by omega) (by omega)
      have hs3 := slice3_run g off n c i (i + 64) 64 (by omega) (by omega) (by omega) (i : Int) ((i : Int) + 64) rfl (by omega)
      have hmin : (64 : Int) ≤ ((n - i : Nat) : Int) := by omega
      have hjd : ∀ m, J O (upTo k) (wr.drewN m) := fun m => HJ.out O _ _ _ none hj ⟨rfl, rfl, rfl, Nat.le_refl _, fun _ _ _ => rfl⟩ (fun r e => by cases e)
      have HJD := Lib.hid hjd
      have HI := Lib.hid hi
      clear hi hjd hj
      gi_wp2
      refine wpIn_wide.2 ?_
      go_quiet (fail)
      obtain ⟨w2, hw2⟩ : ∃ w2, w2 = wr.drewN nq := ⟨_, rfl⟩
      rw [← hw2]
      have d1 : w2.cell? ⟨p1, 0, none⟩ = some (.slice (some ⟨g, off, none⟩) n c) := by rw [hw2]; exact d1
      have hj2 : J O (upTo k) w2 := by rw [hw2]; exact HJD.out nq
      have D1 : Blk w2 p1 22 #[.slice (some ⟨g, off, none⟩) n c] := by rw [hw2]; exact HC1.out
      have D2 : Blk w2 p2 3 #[.int .i64 64] := by rw [hw2]; exact HC2.out
      have HD1 := Lib.hid D1
      have HD2 := Lib.hid D2
      clear hw2 HC1 HC2 d2 HJD hs1 D1 D2
      obtain ⟨fn, tmps, assign, body, hy, hR⟩ := HY.out O (upTo k) k w2 hj2 ⟨(len_upTo k).symm, hlt⟩
      rw [← HI.out] at hy
      gi_wp2
      refine hR.mono ?_
      rintro e W3 (⟨rfl, O3, hJ3, hk3⟩ | ⟨rfl, _, hJx3⟩)
      · have E1 := Lib.hid (hk3.blk HD1.out ho1)
        have E2 := hk3.blk HD2.out ho2
        have hp1 := hk3.far HD1.out.lt ho1
        have hp2 := hk3.far HD2.out.lt ho2
        have d2 : W3.cell? ⟨p2, 0, none⟩ = some (.int .i64 64) := by rw [E2.cell]; rfl
        have HE2 := Lib.hid E2
        have HJ3 := Lib.hid hJ3
        clear hJ3 hs3 hk3 E2
        gi_wp2
        go_roundw
        case rel => exact ⟨k + 1, i + 64, O3, by omega, by rw [HI.out]; omega, hi64, by go_num, by rw [upTo_succ]; exact HJ3.out, hp1, hp2, E1.out, HE2.out⟩
        case measure => simp [intOf]; omega
      · gi_wp2
        refine bodyPost_ret (results_none rfl _ _ _) rfl ?_
        exact ⟨⟨_, rfl⟩, .inr ⟨_, ⟨k, hlt, rfl⟩, by rw [upTo_succ]; exact hJx3⟩⟩
    · obtain rfl : k = N := by omega
      have hie : i = n := by rw [hi, HN.out]
      subst hie
      clear hi
      gi_wp2
      go_end0
      exact ⟨⟨_, rfl⟩, .inl ⟨O, _, rfl, hj⟩⟩
end Go.Proofs.Ytdifepfplfkfoaa
end

/-
  digest.Pieces: a padded text's pieces, as an iterator.
-/
section
namespace Go.Proofs.Ytdifepfplfkfoaa
open Go.RowKit Go.Shelf
set_option linter.unusedVariables false
set_option maxRecDepth 100000
attribute [local go_sem] Oper.semAt_some

theorem aggP64 : AggT Try.prog 81 64 := ⟨⟨_, Try.underlying81, rfl⟩, by kernel_rfl⟩
/-- A text, padded. -/
def padded (bs : List UInt8) : List UInt8 := bs ++ padB bs.length
/-- How many pieces. -/
def pieceN (n : Nat) : Nat := (n + 9 + padZ n) / 64
theorem padded_len (bs : List UInt8) : (padded bs).length = 64 * pieceN bs.length := by
  rw [padded, List.length_append, len_padB, pieceN]
  have h : padZ bs.length = (119 - bs.length % 64) % 64 := rfl
  omega
/-- Piece number j. -/
def pieceAt (bs : List UInt8) (j : Nat) : List UInt8 := ((padded bs).drop (64 * j)).take 64
theorem len_pieceAt (bs : List UInt8) (j : Nat) (h : j < pieceN bs.length) : (pieceAt bs j).length = 64 := by
  rw [pieceAt, List.length_take, List.length_drop, padded_len]
  omega

theorem pieces_c (A : Option Addr) (n c : Nat) (w : World) :
    Calls Try.prog 52 #[.slice A n c] w fun e w' => e = .returned (.func (.func 67) #[] #[.pointer (some ⟨w.heap.size, 0, none⟩)]) ∧ w.alloc (.cells #[.slice A n c] 22) = w' := by
  go_enter Try.func52, Try.ntmps52
  go_wp2_with fail
  go_ret
  exact ⟨rfl, rfl⟩

theorem Calm.mono {B B' : Nat} {W W' : World} (h : Calm B W W') (hB : B' ≤ B) : Calm B' W W' := by
  obtain ⟨row, hg, hr⟩ := h
  exact ⟨row, hg, fun r e => ⟨Nat.le_trans hB (hr r e).1, (hr r e).2⟩⟩

theorem still_load_agg {P : Program} {ops : Array Oper} {w : World} {Q : Act → Prop} {a : Act} {o : Oper} {rest : List Oper} (hw : Region.wanted o (yielded ops a.tmps) = true) (T : TypeId) (x : Operand) (ho : o.op = .load T x) (g off : Nat) (hx : a.eval x = .pointer (some ⟨g, off, none⟩))
    (vs : Array Value) {n : Nat} (hT : AggT P T n) (hn : vs.size = n) (hc : ∀ j v, vs[j]? = some v → w.cell? ⟨g, off + j, none⟩ = some v) (h : wpStill P ops w Q rest (a.put o.dst (.agg vs))) : wpStill P ops w Q (o :: rest) a := by
  refine wpStill_step fun K hK => ?_
  rw [if_pos hw]
  have hl := run_loadVar_agg (P := P) (w := w) g off vs (hn ▸ hT) hc
  unfold Oper.still execOp
  simp only [ho, hx, Instr.loadAt, Instr.sureAddr, Sem.run_bind, Sem.run_pure, Result.andThen_ok, hl]
  exact ⟨rfl, hK _ h⟩

theorem piece_cell {bs : List UInt8} {cur : Array Value} {n x j : Nat} {v : Value} (ht : cur.toList.take (64 * pieceN n) = (padded bs).map b8) (hl : bs.length = n) (hx : x < pieceN n) (hv : (arr8 (pieceAt bs x))[j]? = some v) : cur[64 * x + j]? = some v := by
  have hp := padded_len bs
  rw [hl] at hp
  rw [arr8_get, pieceAt, List.getElem?_take] at hv
  split at hv
  · rw [List.getElem?_drop] at hv
    rw [← Array.getElem?_toList]
    have h : (cur.toList.take (64 * pieceN n))[64 * x + j]? = some v := by rw [ht, List.getElem?_map]; exact hv
    rw [List.getElem?_take] at h
    split at h
    · exact h
    · cases h
  · cases hv

theorem roundIn_rd {m m' l' : Nat} {P : Program} {l : Nat} {f : FuncId} {tmps : Array Value} {assign body : Code} {w : World} {R : Ending → World → Prop} (h : RoundIn Fence.wide m P l f tmps assign body w R) : RoundIn (Rd l') m' P l f tmps assign body w R :=
  ⟨h.1, fun c cs _ => h.2 c cs (fun d hd => by cases hd)⟩

theorem wf_i64' {n : Int} (h1 : -9223372036854775808 ≤ n) (h2 : n ≤ 9223372036854775807) : (Lit.int .i64 n).wf = true := by
  simp [Lit.wf, IntKind.min, IntKind.max, IntKind.signed, IntKind.bits]; omega
theorem padN_nat (n : Nat) (h : n ≤ 1099511627776) : padN (n : Int) = n := by unfold padN; split <;> omega

set_option maxHeartbeats 2000000 in
theorem pieces_iter {w : World} {p B n c : Nat} {A : Option Addr} {bs : List UInt8} (b : Blk w p 22 #[.slice A n c]) (ha : SlB w B A n c bs) (hB : B ≤ w.heap.size) (hn : n ≤ 1099511627776) :
    Iter Try.prog 67 #[.pointer (some ⟨p, 0, none⟩)] (fun j : Nat => #[Value.agg (arr8 (pieceAt bs j))]) (fun _ => True)
      (fun pre x W => x = pre.length ∧ x < pieceN n) (fun xs => xs = upTo (pieceN n)) (fun pre => ∃ k, k < pieceN n ∧ pre = upTo (k + 1)) w := by
  intro l J Jx O W hW hJ hJx hO hY h0
  refine callsIn_wide.2 (calls_of_wp_marks Try.func67 rfl ?_)
  simp only [Try.ntmps67, List.size_toArray, List.length_cons, List.length_nil, Nat.reduceAdd, Nat.reduceSub, Array.replicate_succ, Array.replicate_zero, List.push_toArray, List.append_toArray, List.nil_append, List.cons_append]
  have hz := hW.size
  have hp := (b.below hW b.lt).alloc (.cells #[.func (.yield l) #[] #[]] 111)
  have ha1 := (ha.below (hW.mono hB)).alloc (Nat.le_trans hB hz) (.cells #[.func (.yield l) #[] #[]] 111)
  have c1 : (W.alloc (.cells #[.func (.yield l) #[] #[]] 111)).cell? ⟨p, 0, none⟩ = some (.slice A n c) := by rw [hp.cell]; rfl
  have hbw0 : Below W.heap.size W (W.alloc (.cells #[.func (.yield l) #[] #[]] 111)) := (Below.refl _ _).alloc (Nat.le_refl _) _
  have hy0 := Blk.new W 111 #[.func (.yield l) #[] #[]]
  go_wp2_with fail
  go_step3
  go_wp2_with fail
  go_step3
  go_wp2_with fail
  obtain ⟨V, hV⟩ : ∃ V, V = W.alloc (.cells #[.func (.yield l) #[] #[]] 111) := ⟨_, rfl⟩
  rw [← hV] at hp ha1 c1 hbw0 hy0 ⊢
  have hVz : W.heap.size ≤ V.heap.size := hbw0.size
  have hVs : V.heap.size = W.heap.size + 1 := by rw [hV, World.size_alloc]
  have hbv : Below V.heap.size V V := Below.refl _ _
  clear hV
  have hS : ∀ W', Below V.heap.size V W' → (Below V.heap.size V W' ∧ W'.cell? ⟨p, 0, none⟩ = some (.slice A n c)) := fun W' hb => ⟨hb, by rw [(hp.below hb hp.lt).cell]; rfl⟩
  have hnm : (n : Int) ≤ 1099511627776 := by omega
  have hwf : (Lit.int .i64 (n : Int)).wf = true := wf_i64' (by omega) (by omega)
  have HLn := Lib.hid ha.len
  have hpad : ∀ W', Below V.heap.size V W' → Calls Try.prog 69 #[.int .i64 (n : Int)] W' fun e w' => ∃ A c, e = .returned (.slice A (9 + padZ n) c) ∧ SlB w' w'.heap.size A (9 + padZ n) c (padB n) ∧ Below V.heap.size V w' := by
    intro W' hb
    refine (pad_c (n : Int) hwf W').mono ?_
    rintro e w3 ⟨A3, c3, rfl, h3, hb3⟩
    rw [padN_nat n hn] at h3 ⊢
    exact ⟨A3, c3, rfl, h3.sl, hb.trans (hb3.mono hb.size)⟩
  have hcat : ∀ W' A3 c3, Below V.heap.size V W' → SlB W' W'.heap.size A3 (9 + padZ n) c3 (padB n) → Calls Try.prog 53 #[.slice (some ⟨W'.heap.size, 0, none⟩) 2 2] (W'.alloc (.cells #[.slice A n c, .slice A3 (9 + padZ n) c3] 22)) fun e w' =>
      ∃ A4 c4, e = .returned (.slice A4 (64 * pieceN n) c4) ∧ OwB w' V.heap.size A4 (64 * pieceN n) c4 (padded bs) ∧ Below V.heap.size V w' := by
    intro W' A3 c3 hb h3
    have hzW := hb.size
    have hbA : Below V.heap.size V (W'.alloc (.cells #[.slice A n c, .slice A3 (9 + padZ n) c3] 22)) := hb.alloc hzW _
    have ht : total [⟨A, n, c, bs⟩, ⟨A3, 9 + padZ n, c3, padB n⟩] = 64 * pieceN n := by
      have h : padZ n = (119 - n % 64) % 64 := rfl
      simp [total, pieceN]; omega
    have hj : joined [⟨A, n, c, bs⟩, ⟨A3, 9 + padZ n, c3, padB n⟩] = padded bs := by simp [joined, padded, HLn.out]
    have hpz : padZ n < 64 := padZ_lt n
    refine (concat_c (B := (W'.alloc (.cells #[.slice A n c, .slice A3 (9 + padZ n) c3] 22)).heap.size) [⟨A, n, c, bs⟩, ⟨A3, 9 + padZ n, c3, padB n⟩] ⟨rfl, Nat.le_refl _, by decide, fun _ => ⟨W'.heap.size, 0, rfl, by simp, fun j u hu => ?_⟩⟩ (Nat.le_refl _) ?_ (by rw [ht, pieceN]; omega)).mono ?_
    · rw [(Blk.new W' 22 #[.slice A n c, .slice A3 (9 + padZ n) c3]).cell, Nat.zero_add]
      simpa [Part.v] using hu
    · intro q hq
      simp only [List.mem_cons, List.not_mem_nil, or_false] at hq
      rcases hq with rfl | rfl
      · exact SlB.more ((ha1.below (hb.mono (Nat.le_trans hB (Nat.le_trans hz hVz)))).alloc (Nat.le_trans hB (Nat.le_trans hz (Nat.le_trans hVz hzW))) _) (by rw [World.size_alloc]; omega)
      · exact SlB.more (h3.alloc (Nat.le_refl _) _) (by rw [World.size_alloc]; omega)
    · rintro e w' ⟨A4, c4, rfl, h4, hb4⟩
      rw [ht] at h4 ⊢
      rw [hj] at h4
      exact ⟨A4, c4, rfl, Row.base_le h4 (by rw [World.size_alloc]; omega), hbA.trans (hb4.mono hbA.size)⟩
  refine Code.wp_mono (Q := Exit.then (fun a' w' => ∃ A3 c3 v8 g4 c4 v9 w4, Blk w4 g4 5 v9 ∧ c4 ≤ v9.size ∧ v9.toList.take (64 * pieceN n) = (padded bs).map b8 ∧ 64 * pieceN n ≤ c4 ∧ c4 ≤ maxLen ∧ V.heap.size ≤ g4 ∧ Below V.heap.size V w4 ∧ 
      a' = { tmps := #[Value.func (Fn.yield l) #[] #[], Value.pointer (some ⟨p, 0, none⟩), Value.pointer (some ⟨W.heap.size, 0, none⟩), undef, Value.slice A n c, Value.slice A n c, Value.int IntKind.i64 (n : Int), Value.slice A3 (9 + padZ n) c3, v8, Value.slice (some ⟨g4, 0, none⟩) (64 * pieceN n) c4,
        .func (.func 76) #[] #[.pointer (some ⟨w4.heap.size, 0, none⟩), .pointer (some ⟨w4.heap.size + 1, 0, none⟩)], undef, undef, undef, undef, undef, undef, undef], defers := [] } ∧
      w' = (w4.alloc (.cells #[.slice (some ⟨g4, 0, none⟩) (64 * pieceN n) c4] 22)).alloc (.cells #[.int .i64 64] 3)) (fun _ _ _ => False)) ?_ ?_
  rotate_left
  · go_region_held_law (fun W' => Below V.heap.size V W' ∧ W'.cell? ⟨p, 0, none⟩ = some (.slice A n c)) (first | exact hS _ (by assumption) | exact hS _ (hbv) | exact hS _ (hbv.drew) | exact hS _ (Below.alloc (by assumption) (Below.size (by assumption)) _) | exact hS _ (Below.alloc (Below.alloc (by assumption) (Below.size (by assumption)) _) (Nat.le_trans (Below.size (by assumption)) (by simp)) _))
      (first
        | (go_at_call 69; refine (hpad _ (by first | exact hbv | exact hbv.drew)).mono ?_; rintro e w3 ⟨A3, c3, rfl, h3, hb3⟩)
        | (go_at_call 53; refine (hcat _ _ _ (by assumption) (by assumption)).mono ?_; rintro e w4 ⟨A4, c4, rfl, h4, hb4⟩)
        | (go_at_call 68; refine (chunk_c _ _ _ _).mono ?_; rintro e w5 ⟨rfl, rfl⟩))
    have hN1 : 0 < 64 * pieceN n := by
      have h : padZ n = (119 - n % 64) % 64 := rfl
      rw [pieceN]; omega
    obtain ⟨g4, v9, rfl, hg4, hbk, hsz, htk⟩ := OwB.open_ h4 (Nat.lt_of_lt_of_le hN1 h4.le)
    exact ⟨A3, c3, _, g4, c4, v9, w4, hbk, hsz, htk, h4.le, h4.cap, hg4, by assumption, rfl, rfl⟩
  rintro e a' w' h
  cases e with
  | normal =>
    obtain ⟨A3, c3, v8, g4, c4, v9, w4, hbk, hsz, htk, h4c, h4m, hg4, hb4, rfl, rfl⟩ := h
    go_wp2_with fail
    have hy4 := hy0.below hb4 hy0.lt
    have hz4 := hb4.size
    have hg4l := hbk.lt
    have hVW : W.heap.size < V.heap.size := by omega
    obtain ⟨w5, hw5⟩ : ∃ w5, w5 = (w4.alloc (.cells #[.slice (some ⟨g4, 0, none⟩) (64 * pieceN n) c4] 22)).alloc (.cells #[.int .i64 64] 3) := ⟨_, rfl⟩
    have hw45 : Below w4.heap.size w4 w5 := by rw [hw5]; exact ((Below.refl _ _).alloc (Nat.le_refl _) _).alloc (by simp) _
    have hb1 : Blk w5 w4.heap.size 22 #[.slice (some ⟨g4, 0, none⟩) (64 * pieceN n) c4] := by rw [hw5]; exact (Blk.new _ _ _).alloc _
    have hb2 : Blk w5 (w4.heap.size + 1) 3 #[.int .i64 64] := by
      have h := Blk.new (w4.alloc (.cells #[.slice (some ⟨g4, 0, none⟩) (64 * pieceN n) c4] 22)) 3 #[.int .i64 64]
      rw [World.size_alloc] at h
      rw [hw5]; exact h
    have hy5 := hy4.below hw45 hy4.lt
    have hbk5 := hbk.below hw45 hbk.lt
    have hwW5 : Below W.heap.size W w5 := hbw0.trans ((hb4.trans (hw45.mono hz4)).mono hVz)
    rw [← hw5]
    have hseq := chunk_iter hb1 hb2 h4c (by rw [pieceN]; have hpz : padZ n < 64 := padZ_lt n; omega) (Nat.le_trans h4m (by simp [maxLen]))
    refine wp_range (O := O) (a := _) rfl (enters_of Try.func76 (by kernel_rfl) rfl) hseq (Below.refl _ _) (fun _ => rfl) (fun k hk => ⟨⟨by have := (hO k hk).2; omega, by have := (hO k hk).2; omega⟩, by have := (hO k hk).2; have := hwW5.size; omega⟩)
      (fun O' pre W' => J O' pre W' ∧ Blk W' W.heap.size 111 #[.func (.yield l) #[] #[]] ∧ Blk W' g4 5 v9 ∧ ¬ O' W.heap.size ∧ ¬ O' g4)
      (fun c pre W' => c = .exit 0 ∧ Jx pre W') ?_ ?_ ?_
      (fun O' pre x a' W' => J O' pre W' ∧ Blk W' W.heap.size 111 #[.func (.yield l) #[] #[]] ∧ Blk W' g4 5 v9 ∧ ¬ O' W.heap.size ∧ ¬ O' g4 ∧ x = pre.length ∧ x < pieceN n ∧
        a' = { tmps := #[Value.func (Fn.yield l) #[] #[], Value.pointer (some ⟨p, 0, none⟩), Value.pointer (some ⟨W.heap.size, 0, none⟩), Value.slice (some ⟨g4, 64 * x, none⟩) 64 64, Value.slice A n c, Value.slice A n c, Value.int IntKind.i64 (n : Int), Value.slice A3 (9 + padZ n) c3, v8, Value.slice (some ⟨g4, 0, none⟩) (64 * pieceN n) c4,
        .func (.func 76) #[] #[.pointer (some ⟨w4.heap.size, 0, none⟩), .pointer (some ⟨w4.heap.size + 1, 0, none⟩)], Value.slice (some ⟨g4, 64 * x, none⟩) 64 64, undef, undef, undef, undef, undef, undef], defers := [] }) ?_ ?_ ?_ ?_ ?_
    · exact fun O' => ownFrom_of fun s A A' hs hc => ⟨OwnFrom.calm (hJ O') hs.1 (hc.mono hwW5.size), hc.blk hs.2.1, hc.blk hs.2.2.1, hs.2.2.2⟩
    · exact fun c => ownFrom_of fun s A A' hs hc => ⟨hs.1, OwnFrom.calm hJx hs.2 (hc.mono hwW5.size)⟩
    · exact ⟨OwnFrom.calm (hJ O) h0 (Calm.of_below hwW5), hy5, hbk5, fun h => by have := (hO _ h).2; omega, fun h => by have := (hO _ h).2; omega⟩
    · exact fun O' pre x a' => ownFrom_of fun s A A' hs hc => ⟨OwnFrom.calm (hJ O') hs.1 (hc.mono hwW5.size), hc.blk hs.2.1, hc.blk hs.2.2.1, hs.2.2.2⟩
    · rintro l' O' pre x W' K ⟨hj, hyb, hbk', hoy, hog⟩ ⟨hx1, hx2⟩ hK
      have HX1 := Lib.hid hx1
      clear hx1
      gi_wp2
      exact hK O' _ _ (Kept.refl _ _) ⟨hj, hyb, hbk', hoy, hog, HX1.out, hx2, rfl⟩
    · rintro l' O' pre x a' W' ⟨hj, hyb, hbk', hoy, hog, hx1, hx2, rfl⟩
      have hcell : ∀ j v, (arr8 (pieceAt bs x))[j]? = some v → W'.cell? ⟨g4, 64 * x + j, none⟩ = some v := fun j v hv => by
        rw [hbk'.cell]; exact piece_cell htk HLn.out hx2 hv
      have hsz64 : (arr8 (pieceAt bs x)).size = 64 := by rw [size_arr8, len_pieceAt _ _ (by rw [HLn.out]; exact hx2)]
      have dy : W'.cell? ⟨W.heap.size, 0, none⟩ = some (.func (.yield l) #[] #[]) := by rw [hyb.cell]; rfl
      have HX1 := Lib.hid hx1
      have HLT := Lib.hid hx2
      clear hx1 hx2
      obtain ⟨fn, tmps, assign, body, hy, hR⟩ := hY O' pre x W'.drew (OwnFrom.calm (hJ O') hj (Calm.of_below (Below.refl _ _).drew)) ⟨HX1.out, HLT.out⟩
      have hat : ∀ w, (Instr.arrayAt 81 (.slice (some ⟨g4, 64 * x, none⟩) 64 64)).run Try.prog w = .ok (.pointer (some ⟨g4, 64 * x, none⟩)) w := fun w => run_arrayAt w 81 _ 64 _ 64 64 Try.underlying81 (Nat.le_refl _)
      obtain ⟨vA, hvA⟩ : ∃ vA, vA = arr8 (pieceAt bs x) := ⟨_, rfl⟩
      rw [← hvA] at hy hcell hsz64
      clear hvA
      gi_wp2
      refine wpIn_region_tail (free_rd l') 4 rfl rfl (by kernel_rfl) ?_
      simp only [List.take_succ_cons, List.take_zero, List.drop_succ_cons, List.drop_zero]
      change wpStill _ _ W'.drew (fun a' => wpListIn _ _ _ _ _ _ a' W'.drew) _ _
      still_step
      still_step
      still_step
      refine still_load_agg rfl 81 (.tmp 14) rfl g4 (64 * x) rfl vA aggP64 hsz64 hcell ?_
      refine wpStill_nil ?_
      simp only [Act.put, List.setIfInBounds_toArray, List.set_cons_succ, List.set_cons_zero]
      gi_wp2
      refine (roundIn_rd hR).mono ?_
      rintro e W3 (⟨rfl, O3, hJ3, hk3⟩ | ⟨rfl, hkx, hJx3⟩)
      · gi_wp2
        have hk := (Kept.below (Below.refl _ _).drew : Kept O' O' W' W'.drew).trans hk3
        exact ⟨O3, hk, hJ3, hk.blk hyb hoy, hk.blk hbk' hog, hk.far hyb.lt hoy, hk.far hbk'.lt hog⟩
      · gi_wp2
        exact ⟨((Kept.below (Below.refl _ _).drew : Kept O' O' W' W'.drew).transFrom hkx).mono hwW5.size, rfl, hJx3⟩
    · rintro D O' xs W' hD rfl ⟨hj, hyb, hbk', hoy, hog⟩ hK
      go_wp2_with fail
      refine ⟨by simp, .inl ⟨_, _, rfl, run_takeDeferred hK, ?_⟩⟩
      refine ⟨_, results_none rfl _ _ _, ⟨_, rfl⟩, .inl ⟨O', _, rfl, OwnFrom.calm (hJ O') hj (calm_putObj _ (Nat.le_trans hwW5.size hD) hK rfl)⟩⟩
    · rintro D c pre W' hD ⟨k, hk, rfl⟩ ⟨rfl, hj⟩ hK
      go_wp2_with fail
      refine ⟨by simp, .inl ⟨_, _, rfl, run_takeDeferred hK, ?_⟩⟩
      refine ⟨_, results_none rfl _ _ _, ⟨_, rfl⟩, .inr ⟨_, ⟨k, hk, rfl⟩, OwnFrom.calm hJx hj (calm_putObj _ (Nat.le_trans hwW5.size hD) hK rfl)⟩⟩
  | _ => exact h.elim
end Go.Proofs.Ytdifepfplfkfoaa
end
