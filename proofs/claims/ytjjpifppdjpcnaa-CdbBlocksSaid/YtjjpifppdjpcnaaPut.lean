/-
  slices.Grow at bytes, words.Put.
-/
import Derived.Test.YtjjpifppdjpcnaaWords
import Derived.Test.YtjjpifppdjpcnaaNumB
import Derived.Test.YtjjpifppdjpcnaaBase
namespace Go.Proofs.Ytjjpifppdjpcnaa
open Go.RowKit
set_option linter.unusedVariables false
set_option maxRecDepth 100000

theorem zero8 (W : World) : (zeroValue 5).run Try.prog W = .ok (.int .u8 0) W := by kernel_rfl

/-- 'append(s[:cap(s)], make([]byte, m)...)', m > 0. -/
theorem run_append_zeros {w : World} {base : Nat} {ty : TypeId} {A : Option Addr} {c : Nat} {xs : List Value} (hown : Row w base 5 1 A c c xs) {m : Nat} (hm : 0 < m) (hb : c + m ≤ 140737488355328) (hbase : base ≤ w.heap.size) :
    ∃ A' c' w', (Builtin.append_ #[22, 3] ty #[.slice A c c, .int .i64 (m : Int)]).run Try.prog w = .ok (.slice A' (c + m) c') w' ∧ Row w' base 5 1 A' (c + m) c' (xs ++ (List.replicate m (0 : UInt8)).map b8) ∧ w.grownBy w' none := by
  obtain ⟨i, hi, hz0, hz1, hz2⟩ := info_parts bytes_info
  have hroom : ¬ (c + m ≤ c) := by omega
  have h63 : c + m ≤ maxLen := by simp only [maxLen]; omega
  have h63' : ¬ (9223372036854775807 < ((c : Int) + (m : Int))) := by omega
  have h48' : ¬ (281474976710656 < Builtin.nextslicecap (c + m) c) := by have := growslice_fits (old := c) (need := c + m) (bytes := 1) (by omega) (by omega); omega
  have hge := grownCap_ge w (c + m) c 5
  have hcm : grownCap w (c + m) c 5 ≤ maxLen := grownCap_le_maxLen w (c + m) c _ h63
  have hold : (Builtin.firstCells 1 c (.slice A c c)).run Try.prog w.drew = .ok xs.toArray w.drew := run_firstCells_sl (P := Try.prog) hown.sl w.drew (fun _ => by simp)
  have hwr : IntKind.i64.wrap (m : Int) = (m : Int) := by rw [IntKind.wrap_i64]; omega
  have hm0 : ¬ ((m : Int) < 0) := by omega
  have hmb : ¬ ((281474976710656 : Int) < (m : Int)) := by omega
  have hne : m ≠ 0 := by omega
  have hzc : Builtin.zeroCells (Value.cells (.int .u8 0)) m = ((List.replicate m (0 : UInt8)).map b8).toArray := by
    apply Array.ext_getElem?
    intro k
    simp [Builtin.zeroCells, Value.cells, Nat.mod_one, b8_def]
    by_cases h : k < m <;> simp [h]
  refine ⟨some ⟨w.heap.size, 0, none⟩, grownCap w (c + m) c 5, w.drew.alloc (.cells ((xs ++ (List.replicate m (0 : UInt8)).map b8).toArray ++ Builtin.zeroCells (Value.cells (.int .u8 0)) (grownCap w (c + m) c 5 - (c + m))) 5), ?_, ?_, ?_⟩
  · simp [Builtin.append_, run_underlying Try.underlying22, run_underlying Try.underlying3, sizeOf, typeInfo, zeroValue, hi, hz0, hz1, hz2, asInt, asIntOf, hwr, hm0, hmb, h48', hroom, h63', Question.forced, hold, newRow, grownCap, hne, hzc]
    rw [← List.append_toArray, Array.append_assoc]
    simp
  · refine ⟨by simp [hown.1], hge, hcm, fun _ => ⟨w.heap.size, _, rfl, hbase, Blk.new w.drew _ _, ?_, ?_⟩⟩
    · simp only [Array.size_append, List.size_toArray, size_zeroCells, List.length_append, List.length_map, List.length_replicate, hown.1, show (Value.cells (.int .u8 0)).size = 1 from rfl]
      omega
    · simp only [Array.toList_append]
      rw [List.take_left']
      simp [hown.1]
  · exact ⟨rfl, rfl, rfl, by simp, fun k hk _ => Below.heap_alloc w.drew _ k hk⟩

theorem wpList_append_zeros {ops : Array Oper} {rest : List Oper} {o : Oper} {a : Act} {Q : Exit → Act → World → Prop} {w : World} (hgd : o.guard = none) (s x : Operand)
    (ho : o.op = .call { callee := .builtin .append, args := #[s, x], argTypes := #[22, 3] })
    {base : Nat} {A : Option Addr} {c : Nat} {xs : List Value} (hs : a.eval s = .slice A c c) (hown : Row w base 5 1 A c c xs) {m : Nat} (hx : a.eval x = .int .i64 (m : Int)) (hm : 0 < m) (hb : c + m ≤ 140737488355328) (hbase : base ≤ w.heap.size)
    (h : ∀ A' c' w', Row w' base 5 1 A' (c + m) c' (xs ++ (List.replicate m (0 : UInt8)).map b8) → w.grownBy w' none → wpList Try.prog ops Q rest (a.put o.dst (.slice A' (c + m) c')) w') :
    wpList Try.prog ops Q (o :: rest) a w := by
  refine wpList_plain hgd fun K hK => ?_
  obtain ⟨A', c', w', hrun, h2, h3⟩ := run_append_zeros (ty := o.type) hown hm hb hbase
  unfold Oper.wp execOp
  simp only [ho, resolve, invoke, builtin, Sem.run_bind, Sem.run_pure, Result.andThen_ok, List.map_toArray, List.map_cons, List.map_nil, hs, hx, hrun]
  exact hK _ _ (h A' c' w' h2 h3)

/-- A row's whole room, whatever it holds. -/
theorem Row.room {w : World} {base size : Nat} {e : TypeId} {A : Option Addr} {n c : Nat} {xs : List Value} (h : Row w base e size A n c xs) : ∃ ys, Row w base e size A c c ys ∧ ys.take (n * size) = xs := by
  rcases Nat.eq_zero_or_pos c with hc | hc
  · subst hc
    obtain rfl : n = 0 := by have := h.2.1; omega
    obtain rfl : xs = [] := List.eq_nil_of_length_eq_zero (by simpa using h.1)
    exact ⟨[], Row.nil _ _ _ _ _, by simp⟩
  · obtain ⟨g, cur, rfl, hg, hb, hs, ht⟩ := h.2.2.2 hc
    exact ⟨cur.toList.take (c * size), ⟨by rw [List.length_take, Array.length_toList]; omega, Nat.le_refl _, h.2.2.1, fun _ => ⟨g, cur, rfl, hg, hb, hs, rfl⟩⟩, by rw [List.take_take, Nat.min_eq_left (Nat.mul_le_mul_right _ h.2.1)]; exact ht⟩

/-- Grow: the same bytes, room for so many more. -/
theorem grow_c {w : World} {base : Nat} {A : Option Addr} {n c : Nat} {bs : List UInt8} (ha : OwB w base A n c bs) (hbase : base ≤ w.heap.size) {k : Nat} (hk : k ≤ 1024) (hn : n ≤ 140737488353000) :
    Calls Try.prog 63 #[.slice A n c, .int .i64 k] w fun e w' => ∃ A' c', e = .returned (.slice A' n c') ∧ OwB w' base A' n c' bs ∧ n + k ≤ c' ∧ Below base w w' := by
  have hnc := ha.2.1
  have hcm : c ≤ 9223372036854775807 := ha.2.2.1
  have HA := Lib.hid ha
  obtain ⟨ys, hy, hyt⟩ := Row.room ha
  have HY := Lib.hid hyt
  clear ha hyt
  by_cases hg : n + k ≤ c
  · go_enter Try.func63, Try.ntmps63
    go_wp2_with fail
    go_ret
    exact ⟨A, c, rfl, HA.out, hg, Below.refl _ _⟩
  · obtain ⟨m, hm⟩ : ∃ m : Nat, c + m = n + k := ⟨n + k - c, by omega⟩
    have e1 : (k : Int) - ((c : Int) - (n : Int)) = (m : Int) := by omega
    have hm0 : 0 < m := by omega
    have hmb : c + m ≤ 140737488355328 := by omega
    have HM := Lib.hid hm
    clear hm
    go_enter Try.func63, Try.ntmps63
    have hyl := Lib.hid hy.1
    go_wp2_with (at_builtin; refine wpList_append_zeros rfl (.tmp 20) (.tmp 21) rfl rfl hy rfl hm0 hmb hbase ?_; intro A1 c1 w1 h1 hg1; have hc1 := h1.2.1; have hcm1 : c1 ≤ 9223372036854775807 := h1.2.2.1)
    go_ret
    refine ⟨A1, c1, rfl, ?_, by have := HM.out; omega, (Below.refl _ _).grown hg1 hbase (fun k hk => by cases hk)⟩
    have h2 := Row.trim h1 (k := n) (by omega)
    rw [List.take_append_of_le_length (by rw [hyl.out]; omega), HY.out] at h2
    exact h2

/-- Put in range. -/
theorem put_ok {w : World} {B : Nat} {A : Option Addr} {n c : Nat} {bs : List UInt8} (ha : SlB w B A n c bs) (hB : B ≤ w.heap.size) (hn : n ≤ 140737488352000) {k : Nat} (hs : sz k) (x : Int) (hx : (Lit.int .i64 x).wf = true) (hr : k = 8 ∨ (0 ≤ x ∧ x < (2 : Int) ^ (8 * k))) :
    Calls Try.prog 40 #[.slice A n c, .int .i64 k, .int .i64 x] w fun e w' => ∃ A' c', e = .returned (.tuple #[.slice A' (n + k) c', .nilIface]) ∧ OwB w' w.heap.size A' (n + k) c' (bs ++ numB x k k) ∧ Below w.heap.size w w' := by
  have hk8 : k ≤ 8 := by have := hs; unfold sz at this; omega
  have hk0 : 0 < k := by have := hs; unfold sz at this; omega
  have HS := Lib.hid hs
  have HA := Lib.hid ha
  have hcase : (8 : Int) ≤ k ∨ ((k : Int) < 8 ∧ 0 ≤ x ∧ (x / (2 : Int) ^ (8 * k) != 0) = false) := by
    rcases hr with h | ⟨h0, h1⟩
    · left; omega
    · by_cases h8 : k = 8
      · left; omega
      · right
        refine ⟨by omega, h0, ?_⟩
        rw [Int.ediv_eq_zero_of_lt h0 h1]
        rfl
  clear hs ha hr hx
  rcases hcase with hk' | ⟨hk', hx0, hq⟩
  all_goals
    go_enter Try.func40, Try.ntmps40
    go_wp2_with fail
    refine (sized_yes _ HS.out _).mono ?_
    rintro e w' ⟨rfl, rfl⟩
    go_wp2_with fail
    refine (clone_c HA.out hB (by omega)).mono ?_
    rintro e w1 ⟨A1, c1, rfl, ho1, hb1, _⟩
    have hz1 := hb1.size
    go_wp2_with fail
    refine (grow_c ho1 hz1 (k := k) (by omega) (by omega)).mono ?_
    rintro e w2 ⟨A2, c2, rfl, ho2, hc2, hb2⟩
    have hb2w := hb1.trans hb2
    have HO2 := Lib.hid ho2
    have HB2 := Lib.hid hb2w
    clear ho1 ho2 hb1 hb2 hb2w hz1 hc2
    go_wp2_with fail
    obtain ⟨wz, hwz⟩ : ∃ wz : World, wz = w2 := ⟨_, rfl⟩
    rw [← hwz] at HO2 HB2 ⊢
    clear hwz
    go_loopw [8, 9] (fun v8 v9 wr => ∃ r : Nat, r ≤ k ∧ ((r = 0 ∧ v9 = .int .i64 (-1)) ∨ (∃ s : Nat, r = s + 1 ∧ v9 = .int .i64 (s : Int))) ∧ ∃ A' c', v8 = .slice A' (n + (k - r)) c' ∧ OwB wr w.heap.size A' (n + (k - r)) c' (bs ++ numB x k (k - r)) ∧ Below w.heap.size w wr)
      (fun _ v9 _ => (intOf v9 + 1).toNat)
    case atStart =>
      refine ⟨k, Nat.le_refl _, .inr ⟨k - 1, by omega, ?_⟩, A2, c2, by rw [Nat.sub_self]; rfl, ?_, HB2.out⟩
      · congr 1; omega
      · rw [Nat.sub_self]
        simpa [numB] using HO2.out
    case round =>
      obtain ⟨r, hrk, hcs, A3, c3, rfl, ho3, hb3⟩ := hrel
      have hz3 := hb3.size
      have HO3 := Lib.hid ho3
      have HB3 := Lib.hid hb3
      clear ho3 hb3
      rcases hcs with ⟨rfl, rfl⟩ | ⟨s, rfl, rfl⟩
      · go_wp2_with fail
        go_ret2
        exact ⟨A3, c3, rfl, HO3.out, HB3.out⟩
      · have hby := byteAt_wrap x s
        have hs63 : s < 8 := by omega
        go_wp2_with (at_builtin; refine wpList_append8 rfl (.tmp 40) (.tmp 46) rfl rfl (HO3.out.alloc (.cells #[.int .u8 ((byteAt x s).toNat : Int)] 5)) rfl (SlB.new wr _ [byteAt x s] 1 (Nat.lt_succ_self _) rfl (by simp [maxLen]) rfl) (by omega) (Nat.le_trans hz3 (by simp)) (n + (k - s)) (by omega) ?_; intro A9 c9 w9 h9 q9)
        go_roundw
        case rel =>
          refine ⟨s, by omega, ?_, A9, c9, rfl, ?_, q9.below (HO3.out.alloc _) (HB3.out.alloc hz3 _) (Nat.le_refl _) (Nat.le_trans hz3 (by simp))⟩
          · cases s with
            | zero => exact .inl ⟨rfl, rfl⟩
            | succ t => exact .inr ⟨t, rfl, by rw [show ((t + 1 : Nat) : Int) - 1 = (t : Int) from by omega]⟩
          · have e : k - s = k - (s + 1) + 1 := by omega
            rw [e, numB_succ, show k - 1 - (k - (s + 1)) = s from by omega, ← List.append_assoc, ← e]
            exact h9
        case measure => simp only [intOf]; omega

/-- No such size. -/
theorem put_form {w : World} {A : Option Addr} {n c : Nat} {s : Int} (x : Int) (h : ¬ sz s) :
    Calls Try.prog 40 #[.slice A n c, .int .i64 s, .int .i64 x] w fun e w' => e = .returned (.tuple #[.slice none 0 0, .iface 35 (.int .i64 2)]) ∧ w = w' := by
  have H := Lib.hid h
  clear h
  go_enter Try.func40, Try.ntmps40
  go_wp2_with fail
  refine (sized_no _ H.out _).mono ?_
  rintro e w' ⟨rfl, rfl⟩
  go_wp2_with fail
  go_ret2
  exact ⟨rfl, rfl⟩
/-- Out of range. -/
theorem put_range {w : World} {A : Option Addr} {n c : Nat} {k : Nat} (hs : sz k) (x : Int) (hr : k < 8) (hx : x < 0 ∨ (2 : Int) ^ (8 * k) ≤ x) :
    Calls Try.prog 40 #[.slice A n c, .int .i64 k, .int .i64 x] w fun e w' => e = .returned (.tuple #[.slice none 0 0, .iface 35 (.int .i64 1)]) ∧ w = w' := by
  have HS := Lib.hid hs
  have hk' : (k : Int) < 8 := by omega
  clear hs
  by_cases h0 : x < 0
  · clear hx
    go_enter Try.func40, Try.ntmps40
    go_wp2_with fail
    refine (sized_yes _ HS.out _).mono ?_
    rintro e w' ⟨rfl, rfl⟩
    go_wp2_with fail
    go_ret2
    exact ⟨rfl, rfl⟩
  · have hq : (x / (2 : Int) ^ (8 * k) != 0) = true := by
      have hx := hx.resolve_left h0
      have hp : (0 : Int) < (2 : Int) ^ (8 * k) := Int.pow_pos (by omega)
      have := Int.le_ediv_of_mul_le hp (a := 1) (by rw [Int.one_mul]; exact hx)
      rw [bne_iff_ne]
      omega
    have hx0 : 0 ≤ x := by omega
    clear hx h0
    go_enter Try.func40, Try.ntmps40
    go_wp2_with fail
    refine (sized_yes _ HS.out _).mono ?_
    rintro e w' ⟨rfl, rfl⟩
    go_wp2_with fail
    go_ret2
    exact ⟨rfl, rfl⟩

theorem put_bad {w : World} {A : Option Addr} {n c : Nat} {s : Int} (x : Int) (h : ¬ okPut s x) :
    Calls Try.prog 40 #[.slice A n c, .int .i64 s, .int .i64 x] w fun e w' => e = .returned (.tuple #[.slice none 0 0, .iface 35 (.int .i64 (putErr s))]) ∧ w = w' := by
  by_cases hs : sz s
  · rw [putErr, if_pos (show s = 1 ∨ s = 2 ∨ s = 4 ∨ s = 8 from hs)]
    obtain ⟨k, rfl⟩ : ∃ k : Nat, s = (k : Int) := ⟨s.toNat, by unfold sz at hs; omega⟩
    have h8 : ¬ k = 8 := fun e => h ⟨hs, .inl (by omega)⟩
    refine put_range hs x (by unfold sz at hs; omega) ?_
    by_cases h0 : x < 0
    · exact .inl h0
    · right
      by_cases h1 : (2 : Int) ^ (8 * k) ≤ x
      · exact h1
      · exact absurd ⟨hs, .inr ⟨by omega, by rw [Int.toNat_natCast]; omega⟩⟩ h
  · rw [putErr, if_neg (show ¬ (s = 1 ∨ s = 2 ∨ s = 4 ∨ s = 8) from hs)]
    exact put_form x hs
theorem put_good {w : World} {B : Nat} {A : Option Addr} {n c : Nat} {bs : List UInt8} (ha : SlB w B A n c bs) (hB : B ≤ w.heap.size) (hn : n ≤ 140737488352000) {k : Nat} (x : Int) (hx : (Lit.int .i64 x).wf = true) (h : okPut k x) :
    Calls Try.prog 40 #[.slice A n c, .int .i64 k, .int .i64 x] w fun e w' => ∃ A' c', e = .returned (.tuple #[.slice A' (n + k) c', .nilIface]) ∧ OwB w' w.heap.size A' (n + k) c' (bs ++ numB x k k) ∧ Below w.heap.size w w' :=
  put_ok ha hB hn h.1 x hx (h.2.imp (by omega) (by rw [Int.toNat_natCast]; exact id))
end Go.Proofs.Ytjjpifppdjpcnaa
