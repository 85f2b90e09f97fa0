/-
  The reference's roots.
-/
import Derived.Test.YtbphoilfiahnpaaRefRoot
namespace Go.Proofs.Ytbphoilfiahnpaa
open Go.RowKit
set_option linter.unusedVariables false
set_option linter.unusedSimpArgs false
set_option maxRecDepth 100000

/-- A row of numbers of the call's own. -/
def O64 (w : World) (base : Nat) (A : Option Addr) (n c : Nat) (xs : List Nat) : Prop := Row w base 76 1 A n c (xs.map d64)
theorem O64.s {w : World} {base : Nat} {A : Option Addr} {n c : Nat} {xs : List Nat} (h : O64 w base A n c xs) : S64 w w.heap.size A n c xs := Row.sl h
theorem O64.below {w w' : World} {base : Nat} {A : Option Addr} {n c : Nat} {xs : List Nat} (h : O64 w base A n c xs) (hb : Below w.heap.size w w') : O64 w' base A n c xs := Row.below h hb
theorem d64_one (xs : List Nat) : ∀ u ∈ xs.map d64, u.oneCell' = true := by
  intro u hu
  obtain ⟨x, _, rfl⟩ := List.mem_map.1 hu
  rfl
theorem wpList_append64 {ops : Array Oper} {rest : List Oper} {o : Oper} {a : Act} {Q : Exit → Act → World → Prop} {w : World} (hgd : o.guard = none) (s x : Operand)
    (ho : o.op = .call { callee := .builtin .append, args := #[s, x], argTypes := #[73, 73] })
    {base : Nat} {A : Option Addr} {n c : Nat} {xs : List Nat} (hs : a.eval s = .slice A n c) (hown : O64 w base A n c xs)
    {B : Nat} {A2 : Option Addr} {m c2 : Nat} {news : List Nat} (hx : a.eval x = .slice A2 m c2) (hr : S64 w B A2 m c2 news)
    (hb : n + m ≤ 1000000) (hbase : base ≤ w.heap.size) (nm : Nat) (hnm : n + m = nm)
    (h : ∀ A' c' w', O64 w' base A' nm c' (xs ++ news) → Went w w' A n c m A' c' → wpList Try.prog ops Q rest (a.put o.dst (.slice A' nm c')) w') :
    wpList Try.prog ops Q (o :: rest) a w := by
  subst hnm
  obtain ⟨i0, hi, hz0, hz1, hz2⟩ := info_parts u64s_info
  refine wpList_append_row hgd s x _ ho Try.underlying73 hi hz0 hz1 hz2 rfl hs hown hx hr (d64_one _) (by omega) (by simp only [maxLen]; omega) hbase fun A' c' w' h1 h2 => h A' c' w' ?_ h2
  rw [O64, List.map_append]; exact h1
theorem S64.new (w : World) (x : Nat) : S64 (w.alloc (.cells #[.int .u64 (x : Int)] 76)) (w.heap.size + 1) (some ⟨w.heap.size, 0, none⟩) 1 1 [x] :=
  S64.ofBlk (xs := [x]) (Blk.new w 76 _) rfl (by simp [maxLen]) (Nat.lt_succ_self _)
theorem fits2 (t : List Nat) (y : Nat) : fits t 2 y = mostL (timesL (listL y) (listL y)) t 13 := rfl
theorem fits3 (t : List Nat) (y : Nat) : fits t 3 y = mostL (timesL (timesL (listL y) (listL y)) (listL y)) t 19 := rfl

set_option maxHeartbeats 4000000 in
theorem root2_c {w : World} (p : Nat) (hp : p < 18446744073709551616) :
    Calls Try.prog 52 #[.int .u64 (p : Int), .int .i64 2] w fun e w' => e = .returned (.int .u32 ((rootL p 2 % 4294967296 : Nat) : Int)) ∧ Below w.heap.size w w' := by
  obtain ⟨X, hX⟩ : ∃ X, X = rootL p 2 := ⟨_, rfl⟩
  obtain ⟨tg, htg⟩ : ∃ tg, tg = List.replicate 4 0 ++ [p] := ⟨_, rfl⟩
  have hX0 : rootGo tg 2 37 0 = X := by rw [hX, htg]; rfl
  rw [← hX]
  have HT := Lib.hid htg
  have HX0 := Lib.hid hX0
  have n0 : O64 w w.heap.size none 0 0 (List.replicate 0 0) := Row.nil _ _ _ _ _
  clear hX htg hX0
  go_enter Try.func52, Try.ntmps52
  go_wp2_with fail
  go_loopw [5, 6] (fun v5 v6 wr => ∃ (i : Nat) (A : Option Addr) (c : Nat), i ≤ 4 ∧ v6 = .int .i64 (i : Int) ∧ v5 = .slice A i c ∧ O64 wr w.heap.size A i c (List.replicate i 0) ∧ Below w.heap.size w wr) (fun _ v6 _ => 4 - (intOf v6).toNat)
  case atStart => exact ⟨0, none, 0, by omega, rfl, rfl, n0, Below.refl _ _⟩
  case round =>
    clear n0
    obtain ⟨i, A, c, hi, rfl, rfl, ho, hb⟩ := hrel
    have hz := hb.size
    by_cases hlt : i < 4
    · have hli : (i : Int) < 4 := by omega
      have ha := Row.alloc ho (.cells #[.int .u64 ((0 : Nat) : Int)] 76)
      have hs := S64.new wr 0
      have HB := Lib.hid hb
      clear ho hb
      go_wp2_with (at_builtin; refine wpList_append64 rfl (.tmp 17) (.tmp 18) rfl rfl ha rfl hs (by omega) (Nat.le_trans hz (by simp)) (i + 1) rfl ?_; intro A1 c1 w1 h1 q1)
      refine ⟨⟨i + 1, A1, c1, by omega, by go_num, rfl, by rw [List.replicate_succ']; exact h1, q1.below ha (HB.out.alloc hz _) (Nat.le_refl _) (Nat.le_trans hz (by simp))⟩, by simp [intOf]; omega⟩
    · obtain rfl : i = 4 := by omega
      have ha := Row.alloc ho (.cells #[.int .u64 (p : Int)] 76)
      have hs := S64.new wr p
      have HB := Lib.hid hb
      clear ho hb
      go_wp2_with (at_builtin; refine wpList_append64 rfl (.tmp 20) (.tmp 22) rfl rfl ha rfl hs (by omega) (Nat.le_trans hz (by simp)) (4 + 1) rfl ?_; intro A1 c1 w1 h1 q1)
      have hb1 := q1.below ha (HB.out.alloc hz _) (Nat.le_refl _) (Nat.le_trans hz (by simp))
      rw [← HT.out] at h1
      clear ha hs q1
      go_loopw [7, 8] (fun v7 v8 wr => ∃ (b x t : Nat), b ≤ 37 ∧ t = 2 ^ b / 2 ∧ v8 = .int .u64 (t : Int) ∧ v7 = .int .u64 (x : Int) ∧ x + 2 ^ b ≤ 2 ^ 37 ∧ rootGo tg 2 b x = X ∧ O64 wr w.heap.size A1 (4 + 1) c1 tg ∧ Below w.heap.size w wr) (fun _ v8 _ => (intOf v8).toNat)
      case atStart => exact ⟨37, 0, 68719476736, by omega, by decide, rfl, rfl, by omega, HX0.out, h1, hb1⟩
      case round =>
        clear h1 hb1
        obtain ⟨b, x, t, hb37, ht, rfl, rfl, hx37, hX, ho, hb⟩ := hrel
        have hz1 := hb.size
        cases b with
        | zero =>
          obtain rfl : t = 0 := ht
          have hXx : x = X := hX
          have hx : (x : Int) < 18446744073709551616 := by omega
          have HXX := Lib.hid hXx
          clear hX hXx
          go_wp2_with fail
          go_ret
          exact ⟨by rw [← HXX.out]; rfl, hb⟩
        | succ b =>
          have htq : t = 2 ^ b := by rw [ht, Nat.pow_succ]; omega
          have hbq : 2 ^ b ≤ 2 ^ 36 := Nat.pow_le_pow_right (by omega) (by omega)
          have hb0 : 0 < 2 ^ b := Nat.two_pow_pos b
          rw [rootGo_succ, ← htq] at hX
          rw [Nat.pow_succ, ← htq] at hx37
          rw [← htq] at hbq hb0
          have hnext : t / 2 = 2 ^ b / 2 := by rw [htq]
          have HN := Lib.hid hnext
          have HTQ := Lib.hid htq
          have htb : t ≤ 68719476736 := by omega
          have hti : (0 : Int) < (t : Int) := by omega
          have hxb : x + t ≤ 137438953472 := by omega
          obtain ⟨s, hs⟩ : ∃ s, s = x + t := ⟨_, rfl⟩
          have hy : (x : Int) + (t : Int) = (s : Int) := by omega
          have hyb : s < 18446744073709551616 := by omega
          have HS := Lib.hid hs
          rw [← hs] at hX
          have HX := Lib.hid hX
          clear hs hxb
          have HO := Lib.hid ho
          have HB := Lib.hid hb
          have H37 := Lib.hid hx37
          clear hX htq hbq hx37 hnext ho hb
          try clear ht
          obtain ⟨r, hr⟩ : ∃ r, fits tg 2 s = r := ⟨_, rfl⟩
          have HR := Lib.hid hr
          have hX2 := HX.out
          rw [hr] at hX2
          have HX2 := Lib.hid hX2
          clear hX2 HX hr
          cases r
          all_goals
            go_wp2_with (first
            | (go_at_call 66; refine (list_c s hyb).mono ?_; rintro e v1 ⟨rfl, hb1, hw1⟩; have y1 : S64 v1 v1.heap.size (some ⟨wr.heap.size, 0, none⟩) 3 3 (listL s) := S64.ofBlk hb1 rfl (by simp [maxLen]) hb1.lt)
            | (go_at_call 67; (with_reducible show Calls _ _ #[.slice (some ⟨wr.heap.size, 0, none⟩) _ _, _] _ _); refine (times_c y1 y1 (Nat.le_refl _) (by omega) (by omega) (by omega) (by omega)).mono ?_; rintro e v2 ⟨rfl, hb2, hw2⟩; have hw02 := hw1.trans (hw2.mono hw1.size); have n1 : S64 v2 v2.heap.size (some ⟨v1.heap.size, 0, none⟩) 7 7 (timesL (listL s) (listL s)) := S64.ofBlk hb2 (by rw [len_timesL]; rfl) (by simp [maxLen]) hb2.lt)
            | (go_at_call 68; refine (most_c n1 (HO.out.below hw02).s (by omega) (by omega) (by omega) (by omega)).mono ?_; rintro e v4 ⟨he, rfl⟩; have he2 : e = .returned (.bool _) := he.trans (congrArg (fun b => Ending.returned (Value.bool b)) HR.out); subst he2))
          · exact ⟨⟨b, x, t / 2, by omega, HN.out, rfl, rfl, by have := H37.out; have := HTQ.out; omega, HX2.out, HO.out.below hw02, HB.out.trans (hw02.mono hz1)⟩, by simp [intOf]; omega⟩
          · exact ⟨⟨b, s, t / 2, by omega, HN.out, rfl, rfl, by have := H37.out; have := HTQ.out; have := HS.out; omega, HX2.out, HO.out.below hw02, HB.out.trans (hw02.mono hz1)⟩, by simp [intOf]; omega⟩

set_option maxHeartbeats 4000000 in
theorem root3_c {w : World} (p : Nat) (hp : p < 18446744073709551616) :
    Calls Try.prog 52 #[.int .u64 (p : Int), .int .i64 3] w fun e w' => e = .returned (.int .u32 ((rootL p 3 % 4294967296 : Nat) : Int)) ∧ Below w.heap.size w w' := by
  obtain ⟨X, hX⟩ : ∃ X, X = rootL p 3 := ⟨_, rfl⟩
  obtain ⟨tg, htg⟩ : ∃ tg, tg = List.replicate 6 0 ++ [p] := ⟨_, rfl⟩
  have hX0 : rootGo tg 3 37 0 = X := by rw [hX, htg]; rfl
  rw [← hX]
  have HT := Lib.hid htg
  have HX0 := Lib.hid hX0
  have n0 : O64 w w.heap.size none 0 0 (List.replicate 0 0) := Row.nil _ _ _ _ _
  clear hX htg hX0
  go_enter Try.func52, Try.ntmps52
  go_wp2_with fail
  go_loopw [5, 6] (fun v5 v6 wr => ∃ (i : Nat) (A : Option Addr) (c : Nat), i ≤ 6 ∧ v6 = .int .i64 (i : Int) ∧ v5 = .slice A i c ∧ O64 wr w.heap.size A i c (List.replicate i 0) ∧ Below w.heap.size w wr) (fun _ v6 _ => 6 - (intOf v6).toNat)
  case atStart => exact ⟨0, none, 0, by omega, rfl, rfl, n0, Below.refl _ _⟩
  case round =>
    clear n0
    obtain ⟨i, A, c, hi, rfl, rfl, ho, hb⟩ := hrel
    have hz := hb.size
    by_cases hlt : i < 6
    · have hli : (i : Int) < 6 := by omega
      have ha := Row.alloc ho (.cells #[.int .u64 ((0 : Nat) : Int)] 76)
      have hs := S64.new wr 0
      have HB := Lib.hid hb
      clear ho hb
      go_wp2_with (at_builtin; refine wpList_append64 rfl (.tmp 17) (.tmp 18) rfl rfl ha rfl hs (by omega) (Nat.le_trans hz (by simp)) (i + 1) rfl ?_; intro A1 c1 w1 h1 q1)
      refine ⟨⟨i + 1, A1, c1, by omega, by go_num, rfl, by rw [List.replicate_succ']; exact h1, q1.below ha (HB.out.alloc hz _) (Nat.le_refl _) (Nat.le_trans hz (by simp))⟩, by simp [intOf]; omega⟩
    · obtain rfl : i = 6 := by omega
      have ha := Row.alloc ho (.cells #[.int .u64 (p : Int)] 76)
      have hs := S64.new wr p
      have HB := Lib.hid hb
      clear ho hb
      go_wp2_with (at_builtin; refine wpList_append64 rfl (.tmp 20) (.tmp 22) rfl rfl ha rfl hs (by omega) (Nat.le_trans hz (by simp)) (6 + 1) rfl ?_; intro A1 c1 w1 h1 q1)
      have hb1 := q1.below ha (HB.out.alloc hz _) (Nat.le_refl _) (Nat.le_trans hz (by simp))
      rw [← HT.out] at h1
      clear ha hs q1
      go_loopw [7, 8] (fun v7 v8 wr => ∃ (b x t : Nat), b ≤ 37 ∧ t = 2 ^ b / 2 ∧ v8 = .int .u64 (t : Int) ∧ v7 = .int .u64 (x : Int) ∧ x + 2 ^ b ≤ 2 ^ 37 ∧ rootGo tg 3 b x = X ∧ O64 wr w.heap.size A1 (6 + 1) c1 tg ∧ Below w.heap.size w wr) (fun _ v8 _ => (intOf v8).toNat)
      case atStart => exact ⟨37, 0, 68719476736, by omega, by decide, rfl, rfl, by omega, HX0.out, h1, hb1⟩
      case round =>
        clear h1 hb1
        obtain ⟨b, x, t, hb37, ht, rfl, rfl, hx37, hX, ho, hb⟩ := hrel
        have hz1 := hb.size
        cases b with
        | zero =>
          obtain rfl : t = 0 := ht
          have hXx : x = X := hX
          have hx : (x : Int) < 18446744073709551616 := by omega
          have HXX := Lib.hid hXx
          clear hX hXx
          go_wp2_with fail
          go_ret
          exact ⟨by rw [← HXX.out]; rfl, hb⟩
        | succ b =>
          have htq : t = 2 ^ b := by rw [ht, Nat.pow_succ]; omega
          have hbq : 2 ^ b ≤ 2 ^ 36 := Nat.pow_le_pow_right (by omega) (by omega)
          have hb0 : 0 < 2 ^ b := Nat.two_pow_pos b
          rw [rootGo_succ, ← htq] at hX
          rw [Nat.pow_succ, ← htq] at hx37
          rw [← htq] at hbq hb0
          have hnext : t / 2 = 2 ^ b / 2 := by rw [htq]
          have HN := Lib.hid hnext
          have HTQ := Lib.hid htq
          have htb : t ≤ 68719476736 := by omega
          have hti : (0 : Int) < (t : Int) := by omega
          have hxb : x + t ≤ 137438953472 := by omega
          obtain ⟨s, hs⟩ : ∃ s, s = x + t := ⟨_, rfl⟩
          have hy : (x : Int) + (t : Int) = (s : Int) := by omega
          have hyb : s < 18446744073709551616 := by omega
          have HS := Lib.hid hs
          rw [← hs] at hX
          have HX := Lib.hid hX
          clear hs hxb
          have HO := Lib.hid ho
          have HB := Lib.hid hb
          have H37 := Lib.hid hx37
          clear hX htq hbq hx37 hnext ho hb
          try clear ht
          obtain ⟨r, hr⟩ : ∃ r, fits tg 3 s = r := ⟨_, rfl⟩
          have HR := Lib.hid hr
          have hX2 := HX.out
          rw [hr] at hX2
          have HX2 := Lib.hid hX2
          clear hX2 HX hr
          cases r
          all_goals
            go_wp2_with (first
            | (go_at_call 66; refine (list_c s hyb).mono ?_; rintro e v1 ⟨rfl, hb1, hw1⟩; have y1 : S64 v1 v1.heap.size (some ⟨wr.heap.size, 0, none⟩) 3 3 (listL s) := S64.ofBlk hb1 rfl (by simp [maxLen]) hb1.lt)
            | (go_at_call 67; (with_reducible show Calls _ _ #[.slice (some ⟨wr.heap.size, 0, none⟩) _ _, _] _ _); refine (times_c y1 y1 (Nat.le_refl _) (by omega) (by omega) (by omega) (by omega)).mono ?_; rintro e v2 ⟨rfl, hb2, hw2⟩; have hw02 := hw1.trans (hw2.mono hw1.size); have n1 : S64 v2 v2.heap.size (some ⟨v1.heap.size, 0, none⟩) 7 7 (timesL (listL s) (listL s)) := S64.ofBlk hb2 (by rw [len_timesL]; rfl) (by simp [maxLen]) hb2.lt)
            | (go_at_call 67; (with_reducible show Calls _ _ #[.slice (some ⟨v1.heap.size, 0, none⟩) _ _, _] _ _); refine (times_c n1 (Sl.more (y1.below hw2) hw2.size) (Nat.le_refl _) (by omega) (by omega) (by omega) (by omega)).mono ?_; rintro e v3 ⟨rfl, hb3, hw3⟩; have hw03 := hw02.trans (hw3.mono hw02.size); have n2 : S64 v3 v3.heap.size (some ⟨v2.heap.size, 0, none⟩) 11 11 (timesL (timesL (listL s) (listL s)) (listL s)) := S64.ofBlk hb3 (by rw [len_timesL, len_timesL]; rfl) (by simp [maxLen]) hb3.lt)
            | (go_at_call 68; refine (most_c n2 (HO.out.below hw03).s (by omega) (by omega) (by omega) (by omega)).mono ?_; rintro e v4 ⟨he, rfl⟩; have he2 : e = .returned (.bool _) := he.trans (congrArg (fun b => Ending.returned (Value.bool b)) HR.out); subst he2))
          · exact ⟨⟨b, x, t / 2, by omega, HN.out, rfl, rfl, by have := H37.out; have := HTQ.out; omega, HX2.out, HO.out.below hw03, HB.out.trans (hw03.mono hz1)⟩, by simp [intOf]; omega⟩
          · exact ⟨⟨b, s, t / 2, by omega, HN.out, rfl, rfl, by have := H37.out; have := HTQ.out; have := HS.out; omega, HX2.out, HO.out.below hw03, HB.out.trans (hw03.mono hz1)⟩, by simp [intOf]; omega⟩

end Go.Proofs.Ytbphoilfiahnpaa
