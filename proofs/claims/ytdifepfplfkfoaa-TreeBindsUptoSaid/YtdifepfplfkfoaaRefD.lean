/-
  Several texts of plain lemmas and contracts, one behind the other: RefPad, RefRot, RefSched, RefTake, Table.
-/
import Derived.Test.YtdifepfplfkfoaaDigB
import Derived.Test.YtdifepfplfkfoaaDigA
import Derived.Test.YtdifepfplfkfoaaBase

/-
  The reference's Pad.
-/
section
namespace Go.Proofs.Ytdifepfplfkfoaa
open Go.RowKit
set_option linter.unusedVariables false
set_option maxRecDepth 100000

/-- A slice value's length. -/
def slLen : Value → Nat
  | .slice _ n _ => n
  | _ => 0
theorem zer8_snoc (j : Nat) : [128] ++ zer8 (j + 1) = [128] ++ zer8 j ++ [0] := by
  simp only [zer8]
  rw [List.replicate_succ', List.append_assoc]
theorem bigB_drop (x k i : Nat) (h : i < k) : (bigB x k).drop (k - (i + 1)) = [UInt8.ofNat (x / 256 ^ i)] ++ (bigB x k).drop (k - i) := by
  have h1 : k - (i + 1) < (bigB x k).length := by rw [len_bigB]; omega
  rw [List.drop_eq_getElem_cons h1, show k - (i + 1) + 1 = k - i from by omega]
  have := bigB_get x k (k - (i + 1)) (by omega)
  rw [List.getElem?_eq_getElem h1, Option.some.injEq] at this
  rw [this, show k - 1 - (k - (i + 1)) = i from by omega]
  rfl

/-- An append to a row of one cell that fills its block leaves all that lay below the new blocks. -/
theorem Below.of_went {w w' : World} {g n c m c' : Nat} {A' : Option Addr} {o : Obj} (h : Went (w.alloc o) w' (some ⟨g, 0, none⟩) n c m A' c') (hg : g = w.heap.size) : Below (w.heap.size) (w.alloc o) w' := by
  subst hg
  refine (Below.refl _ _).grown h.grown (by simp) fun k hk => ?_
  unfold wrote at hk
  split at hk
  · cases hk
  · simp at hk; omega

set_option maxHeartbeats 1000000 in
theorem refpad_nat (n : Int) (m : Nat) (hl : m ≤ 1099511627776) (hcase : n < 0 ∧ m = 0 ∨ 1099511627776 < n ∧ m = 0 ∨ n = (m : Int)) (hx : -9223372036854775808 ≤ n ∧ n ≤ 9223372036854775807) (w : World) :
    Calls Try.prog 57 #[.int .i64 n] w fun e w' => ∃ A c, e = .returned (.slice A (9 + padZ m) c) ∧ OwB w' w.heap.size A (9 + padZ m) c (padB m) ∧ Below w.heap.size w w' := by
  have hz := padZ_lt m
  obtain ⟨z, hzz⟩ : ∃ z, z = padZ m := ⟨_, rfl⟩
  have HZ := Lib.hid hzz
  have hw0 : OwB (w.alloc (.cells #[.int .u8 128] 5)) w.heap.size (some ⟨w.heap.size, 0, none⟩) 1 1 ([128] ++ zer8 0) := OwB.lit w w.heap.size _ [128] 1 (Nat.le_refl _) rfl (by simp [maxLen]) rfl
  have hb0 : Below w.heap.size w (w.alloc (.cells #[.int .u8 128] 5)) := (Below.refl _ _).alloc (Nat.le_refl _) _
  have hmz : ∀ j : Nat, j ≤ z → ((m + (1 + j) + 8) % 64 = 0 ↔ j = z) := fun j hj => by rw [hzz] at hj ⊢; unfold padZ at hj ⊢; omega
  have HMZ := Lib.hid hmz
  rw [← hzz] at hz
  have H0 := Lib.hid hw0
  clear hzz hmz hw0
  have hm0 : (0 : Int) ≤ (m : Int) := by omega
  have hm1 : (m : Int) ≤ 1099511627776 := by omega
  have hcase' : Hid ((n < 0 ∨ 1099511627776 < n) → m = 0) := Lib.hid (by omega)
  have hcase3 : n < 0 ∨ (0 ≤ n ∧ 1099511627776 < n) ∨ (0 ≤ n ∧ n ≤ 1099511627776) := by omega
  have hnm : Hid (0 ≤ n ∧ n ≤ 1099511627776 → n = (m : Int)) := Lib.hid (by omega)
  clear hcase
  rcases hcase3 with h1 | ⟨h0, h1⟩ | ⟨h0, h1⟩
  all_goals
    go_enter Try.func57, Try.ntmps57
    go_wp2_with fail
    first
      | (have hm' : m = 0 := hcase'.out (by omega)
         have hv : Value.int .i64 0 = Value.int .i64 (m : Int) := by rw [hm']; rfl
         conv => arg 4; rw [hv]
         clear hv hm')
      | (have hn' : n = (m : Int) := hnm.out ⟨h0, h1⟩
         subst hn')
    go_loopw [3] (fun v3 wr => ∃ (j l : Nat) (A : Option Addr) (c : Nat), j ≤ z ∧ l = 1 + j ∧ v3 = .slice A l c ∧ OwB wr w.heap.size A l c ([128] ++ zer8 j) ∧ Below w.heap.size w wr) (fun v3 _ => 65 - slLen v3)
    case atStart =>
      exact ⟨0, 1, _, 1, Nat.zero_le _, rfl, rfl, H0.out, hb0⟩
    case round =>
      clear h1
      obtain ⟨j, l, A, c, hj, hlj, rfl, ho, hb⟩ := hrel
      have hlz : l ≤ 64 := by omega
      have ht := HMZ.out j hj
      rw [← hlj] at ht
      have HLJ := Lib.hid hlj
      have HO := Lib.hid ho
      have hbs := hb.size
      clear hlj
      by_cases hjz : j = z
      · have htt : ((m : Int) + (l : Int) + 8) % 64 = 0 := by have := ht.2 hjz; omega
        have htb : (((m : Int) + (l : Int) + 8) % 64 != 0) = false := by rw [htt]; rfl
        clear ht htt
        go_wp2_with fail
        subst hjz
        have hy0 : m * 8 < 9223372036854775808 := by omega
        obtain ⟨x, hxm⟩ : ∃ x, x = m * 8 := ⟨_, rfl⟩
        have hxc : (m : Int) * 8 = (x : Int) := by omega
        rw [hxc]
        rw [← hxm] at hy0
        have HXM := Lib.hid hxm
        clear hxm hxc htb ho hb0 hm0 hm1
        obtain ⟨wo, hwo⟩ : ∃ wo : World, wo = wr := ⟨_, rfl⟩
        rw [← hwo] at HO hb hbs ⊢
        clear hwo wr
        have HB := Lib.hid hb
        clear hb
        go_loopw [4, 5, 6] (fun v4 v5 v6 wr => ∃ (i y : Nat) (A' : Option Addr) (c' : Nat), i ≤ 8 ∧ y < 9223372036854775808 ∧ y = x / 256 ^ i ∧ v6 = .int .i64 (i : Int) ∧ v4 = .int .i64 (y : Int) ∧ v5 = .slice A' i c' ∧
            OwB wr w.heap.size A' i c' ((bigB x 8).drop (8 - i)) ∧ OwB wr w.heap.size A l c ([128] ++ zer8 j) ∧ Below w.heap.size w wr) (fun _ _ v6 _ => 8 - (intOf v6).toNat)
        case atStart =>
          refine ⟨0, x, none, 0, by omega, hy0, by simp, rfl, rfl, rfl, ?_, HO.out, HB.out⟩
          rw [Nat.sub_zero, List.drop_of_length_le (by rw [len_bigB]; exact Nat.le_refl _)]
          exact OwB.nil _ _ _
        case round =>
          obtain ⟨i, y, A5, c5, hi, hyl, hyx, rfl, rfl, rfl, ho5, ho3, hb⟩ := hrel
          have HYX := Lib.hid hyx
          have HO5 := Lib.hid ho5
          have HO3 := Lib.hid ho3
          have hz5 := hb.size
          clear hyx ho5 ho3
          by_cases hi8 : i < 8
          · have h33 : OwB (wr.alloc (.cells #[.int .u8 ((y : Int) % 256)] 5)) w.heap.size (some ⟨wr.heap.size, 0, none⟩) 1 1 [UInt8.ofNat y] :=
              OwB.lit wr w.heap.size _ [UInt8.ofNat y] 1 hz5 rfl (by simp [maxLen]) (by simp only [List.map_cons, List.map_nil, b8, UInt8.toNat_ofNat']; rfl)
            have H33 := Lib.hid h33
            clear h33
            go_wp2_with (at_builtin; refine wpList_append8 rfl (.tmp 33) (.tmp 34) rfl rfl H33.out rfl (HO5.out.alloc _).sl (by omega) (Nat.le_trans hz5 (by simp)) (i + 1) (by omega) ?_; intro A9 c9 w9 h9 q9)
            go_roundw
            case rel =>
              have h39 : OwB w9 w.heap.size A l c ([128] ++ zer8 j) := Row.below HO3.out (((Below.refl _ _).alloc (Nat.le_refl _) _).trans (Below.of_went q9 rfl))
              refine ⟨i + 1, y / 256, A9, c9, by omega, by omega, ?_, by go_num, rfl, rfl, ?_, h39, q9.below H33.out (hb.alloc hz5 _) (Nat.le_refl _) (Nat.le_trans hz5 (by simp))⟩
              · rw [HYX.out, Nat.div_div_eq_div_mul, ← Nat.pow_succ]
              · rw [bigB_drop _ _ _ hi8, ← HYX.out]
                exact h9
            case measure => simp [intOf]; omega
          · obtain rfl : i = 8 := by omega
            go_wp2_with (at_builtin; refine wpList_append8 rfl (.tmp 38) (.tmp 39) rfl rfl HO3.out rfl HO5.out.sl (by omega) hz5 (l + 8) rfl ?_; intro A9 c9 w9 h9 q9)
            go_ret
            have e1 : l + 8 = 9 + padZ m := by rw [HLJ.out, HZ.out]; omega
            refine ⟨A9, c9, by rw [← e1]; rfl, ?_, q9.below HO3.out hb (Nat.le_refl _) hz5⟩
            rw [← e1, padB, ← HZ.out, ← HXM.out]
            rw [Nat.sub_self, List.drop_zero] at h9
            exact h9
      · have htt : ((m : Int) + (l : Int) + 8) % 64 ≠ 0 := by intro e; exact hjz (ht.1 (by omega))
        have htb : (((m : Int) + (l : Int) + 8) % 64 != 0) = true := by rw [bne_iff_ne]; exact htt
        clear ht htt
        go_wp2_with (at_builtin; refine wpList_append8 rfl (.tmp 21) (.tmp 22) rfl rfl (HO.out.alloc _) rfl (SlB.new wr #[.int .u8 0] [0] 1 (Nat.lt_succ_self _) rfl (by simp [maxLen]) rfl) (by omega) (Nat.le_trans hbs (by simp)) (l + 1) rfl ?_; intro A9 c9 w9 h9 q9)
        go_roundw
        case rel =>
          refine ⟨j + 1, l + 1, A9, c9, by omega, by rw [HLJ.out]; omega, rfl, ?_, q9.below (HO.out.alloc _) (hb.alloc hbs _) (Nat.le_refl _) (Nat.le_trans hbs (by simp))⟩
          rw [zer8_snoc]
          exact h9
        case measure => simp only [slLen]; omega

theorem refpad_c (n : Int) (hn : (Lit.int .i64 n).wf = true) (w : World) :
    Calls Try.prog 57 #[.int .i64 n] w fun e w' => ∃ A c, e = .returned (.slice A (9 + padZ (padN n)) c) ∧ OwB w' w.heap.size A (9 + padZ (padN n)) c (padB (padN n)) ∧ Below w.heap.size w w' :=
  refpad_nat n (padN n) (padN_le n) (by unfold padN; split <;> omega) (i64_bd hn) w
end Go.Proofs.Ytdifepfplfkfoaa
end

/-
  The reference's shr and rotr, by dividing.
-/
section
namespace Go.Proofs.Ytdifepfplfkfoaa
open Go.RowKit
set_option linter.unusedVariables false
set_option maxRecDepth 100000

/-- A rotation right as a number. -/
def rotN (x i : Nat) : Nat := x / 2 ^ i + (x % 2 ^ i) * 2 ^ (32 - i)
theorem rotN_zero (x : Nat) : rotN x 0 = x := by simp [rotN, Nat.mod_one]
theorem rotN_succ (x i : Nat) (hi : i ≤ 31) : rotN x (i + 1) = rotN x i / 2 + rotN x i % 2 * 2147483648 := by
  have e1 : 2 ^ (32 - i) = 2 * 2 ^ (31 - i) := by rw [show 32 - i = (31 - i) + 1 from by omega, Nat.pow_succ]; omega
  have e2 : x % 2 ^ (i + 1) = x % 2 ^ i + 2 ^ i * (x / 2 ^ i % 2) := by rw [Nat.pow_succ, Nat.mod_mul]
  have e3 : 2 ^ i * 2 ^ (31 - i) = 2147483648 := by rw [← Nat.pow_add, show i + (31 - i) = 31 from by omega]
  have e4 : x / 2 ^ (i + 1) = x / 2 ^ i / 2 := by rw [Nat.pow_succ, Nat.div_div_eq_div_mul]
  unfold rotN
  rw [show 32 - (i + 1) = 31 - i from by omega, e1, e2, e4]
  generalize x / 2 ^ i = q at *
  generalize x % 2 ^ i = r at *
  rw [Nat.add_mul, Nat.mul_right_comm, e3]
  have e5 : r * (2 * 2 ^ (31 - i)) = 2 * (r * 2 ^ (31 - i)) := by rw [Nat.mul_left_comm]
  rw [e5]
  generalize r * 2 ^ (31 - i) = s
  omega
theorem rotR_nat (x : UInt32) (n : Nat) (h : n ≤ 31) : (rotR x n).toNat = rotN x.toNat n := by
  have hx := UInt32.toNat_lt x
  have hp : 2 ^ n * 2 ^ (32 - n) = 4294967296 := by rw [← Nat.pow_add, show n + (32 - n) = 32 from by omega]
  have h1 : x.toNat / 2 ^ n < 2 ^ (32 - n) := Nat.div_lt_of_lt_mul (by rw [hp]; exact hx)
  have h2 : x.toNat * 2 ^ (32 - n) % 4294967296 = 2 ^ (32 - n) * (x.toNat % 2 ^ n) := by
    rw [← hp, Nat.mul_comm x.toNat, Nat.mul_comm (2 ^ n), Nat.mul_mod_mul_left]
  have h3 : x.toNat / 2 ^ n ≤ x.toNat := Nat.div_le_self _ _
  rw [rotR, UInt32.toNat_or, UInt32.toNat_ofNat', UInt32.toNat_ofNat', Nat.mod_eq_of_lt (a := x.toNat / 2 ^ n) (by omega), h2, Nat.or_comm, ← Nat.two_pow_add_eq_or_of_lt h1, rotN]
  rw [Nat.mul_comm, Nat.add_comm]
theorem rotN_lt (x : UInt32) (n : Nat) (h : n ≤ 31) : rotN x.toNat n < 4294967296 := by rw [← rotR_nat x n h]; exact UInt32.toNat_lt _

theorem refrotr_c (x : UInt32) (n : Int) (h0 : 0 ≤ n) (h2 : n ≤ 31) (w : World) :
    Calls Try.prog 74 #[.int .u32 (x.toNat : Int), .int .i64 n] w fun e w' => e = .returned (.int .u32 ((rotR x n.toNat).toNat : Int)) ∧ w = w' := by
  obtain ⟨m, rfl⟩ : ∃ m : Nat, n = (m : Int) := ⟨n.toNat, by omega⟩
  rw [Int.toNat_natCast, rotR_nat x m (by omega)]
  go_enter Try.func74, Try.ntmps74
  go_wp2_with fail
  go_loop [0, 5] (fun v0 v5 => ∃ i y : Nat, i ≤ m ∧ y = rotN x.toNat i ∧ v0 = .int .u32 (y : Int) ∧ v5 = .int .i64 (i : Int)) (fun _ v5 => m - (intOf v5).toNat)
  case atStart => exact ⟨0, x.toNat, by omega, (rotN_zero _).symm, rfl, rfl⟩
  case round =>
    obtain ⟨i, y, hi, hy, rfl, rfl⟩ := hrel
    have hlt := rotN_lt x i (by omega)
    rw [← hy] at hlt
    have HY := Lib.hid hy
    clear hy
    by_cases him : i < m
    · go_wp2_with fail
      go_round
      case rel => exact ⟨i + 1, y / 2 + y % 2 * 2147483648, by omega, by rw [rotN_succ _ _ (by omega), HY.out], by congr 1, by go_num⟩
      case measure => simp [intOf]; omega
    · obtain rfl : i = m := by omega
      go_wp2_with fail
      go_ret
      exact ⟨by rw [← HY.out]; rfl, rfl⟩

theorem refshr_c (x : UInt32) (n : Int) (h0 : 0 ≤ n) (h2 : n ≤ 31) (w : World) :
    Calls Try.prog 61 #[.int .u32 (x.toNat : Int), .int .i64 n] w fun e w' => e = .returned (.int .u32 ((shR x n.toNat).toNat : Int)) ∧ w = w' := by
  obtain ⟨m, rfl⟩ : ∃ m : Nat, n = (m : Int) := ⟨n.toNat, by omega⟩
  have hx := UInt32.toNat_lt x
  have hsh : (shR x m).toNat = x.toNat / 2 ^ m := by
    have := Nat.div_le_self x.toNat (2 ^ m)
    rw [shR, UInt32.toNat_ofNat', Nat.mod_eq_of_lt (by omega)]
  rw [Int.toNat_natCast, hsh]
  clear hsh
  go_enter Try.func61, Try.ntmps61
  go_wp2_with fail
  go_loop [0, 5] (fun v0 v5 => ∃ i y : Nat, i ≤ m ∧ y < 4294967296 ∧ y = x.toNat / 2 ^ i ∧ v0 = .int .u32 (y : Int) ∧ v5 = .int .i64 (i : Int)) (fun _ v5 => m - (intOf v5).toNat)
  case atStart => exact ⟨0, x.toNat, by omega, hx, by simp, rfl, rfl⟩
  case round =>
    obtain ⟨i, y, hi, hyl, hy, rfl, rfl⟩ := hrel
    have HY := Lib.hid hy
    clear hy
    by_cases him : i < m
    · go_wp2_with fail
      go_round
      case rel => exact ⟨i + 1, y / 2, by omega, by omega, by rw [HY.out, Nat.div_div_eq_div_mul, Nat.pow_succ], rfl, by go_num⟩
      case measure => simp [intOf]; omega
    · obtain rfl : i = m := by omega
      go_wp2_with fail
      go_ret
      have e : ((x.toNat : Int) / 2 ^ i) = (y : Int) := by rw [HY.out, Int.natCast_ediv, Int.natCast_pow]; rfl
      exact ⟨by rw [e]; rfl, rfl⟩
end Go.Proofs.Ytdifepfplfkfoaa
end

/-
  The reference's Schedule.
-/
section
namespace Go.Proofs.Ytdifepfplfkfoaa
open Go.RowKit
set_option linter.unusedVariables false
set_option maxRecDepth 100000

/-- A word of the first k bytes of four. -/
theorem word_step (bs : List UInt8) (h : bs.length ≤ 3) (x : UInt8) : ((bigN bs : Int) * 256 % 4294967296 + (x.toNat : Int)) % 4294967296 = (bigN (bs ++ [x]) : Int) := by
  have h1 : bigN bs < 16777216 := by
    match bs, h with
    | [], _ => decide
    | [a], _ => have := UInt8.toNat_lt a; simp [bigN]; omega
    | [a, b], _ => have := UInt8.toNat_lt a; have := UInt8.toNat_lt b; simp [bigN]; omega
    | [a, b, c], _ => have := UInt8.toNat_lt a; have := UInt8.toNat_lt b; have := UInt8.toNat_lt c; simp [bigN]; omega
    | _ :: _ :: _ :: _ :: _, h => simp at h
  have h2 := UInt8.toNat_lt x
  rw [bigN_snoc]
  omega
theorem wordAt_nat (ps : List UInt8) (k : Nat) : (bigN ((ps.drop (4 * k)).take 4) : Int) = ((wordAt ps k).toNat : Int) := by
  have := word_lt ((ps.drop (4 * k)).take 4) (List.length_take_le _ _)
  rw [wordAt, UInt32.toNat_ofNat']
  omega
/-- The first k words stand; the next holds what the first j bytes of four make. -/
def midW (ps : List UInt8) (k : Nat) (x : Nat) : List UInt32 := schedTo ps k ++ [UInt32.ofNat x] ++ z32 (63 - k)

set_option maxHeartbeats 2000000 in
theorem refsched_c {w : World} {B : Nat} {A : Option Addr} {c : Nat} {ps : List UInt8} (ha : SlB w B A 64 c ps) (hB : B ≤ w.heap.size) :
    Calls Try.prog 60 #[.slice A 64 c] w fun e w' => e = .returned (.agg (arr32 (sched ps))) ∧ Below w.heap.size w w' := by
  have hl := Lib.hid ha.len
  have hcm : c ≤ 9223372036854775807 := ha.cap
  obtain ⟨b, off, rfl, hbB, hj⟩ := ha.at_ (by have := ha.le; omega)
  have HJ := Lib.hid hj
  have b2 := Blk.new w 95 (arr32 (z32 64))
  have b3 := Blk.new (w.alloc (.cells (arr32 (z32 64)) 95)) 95 (arr32 (z32 64))
  simp only [World.size_alloc] at b3
  have B2 := b2.alloc (.cells (arr32 (z32 64)) 95)
  have hb : Below w.heap.size w ((w.alloc (.cells (arr32 (z32 64)) 95)).alloc (.cells (arr32 (z32 64)) 95)) := ((Below.refl _ _).alloc (Nat.le_refl _) _).alloc (by simp) _
  clear ha hj b2
  go_enter Try.func60, Try.ntmps60
  go_wp2_with ((with_reducible show wpList _ _ _ (Oper.mk _ (Op.alloc 95) _ _ _ _ :: _) _ _); refine wpList_alloc_agg rfl 95 rfl (arr32 (z32 64)) zero24 ?_; (try simp only [World.size_alloc]))
  obtain ⟨w3, hw3⟩ : ∃ w3 : World, w3 = ((w.alloc (.cells (arr32 (z32 64)) 95)).alloc (.cells (arr32 (z32 64)) 95)) := ⟨_, rfl⟩
  rw [← hw3] at hb B2 b3 ⊢
  clear hw3
  go_loopw [4] (fun i wr => ∃ k : Nat, k ≤ 16 ∧ i = .int .i64 k ∧ Blk wr w.heap.size 95 (arr32 (z32 64)) ∧
      Blk wr (w.heap.size + 1) 95 (arr32 (schedTo ps k ++ z32 (64 - k))) ∧ Below w.heap.size w wr) (fun i _ => 16 - (intOf i).toNat)
  case atStart => exact ⟨0, by omega, rfl, B2, b3, hb⟩
  case round =>
    clear B2 b3 hb
    obtain ⟨k, hk, rfl, B2, B3, hb⟩ := hrel
    have hz := hb.size
    have hls := Lib.hid (len_schedTo ps k)
    obtain ⟨wo, hwo⟩ : ∃ wo : World, wo = wr := ⟨_, rfl⟩
    rw [← hwo] at B2 B3 hb hz ⊢
    clear hwo wr
    by_cases hlt : k < 16
    · have hstart : Blk wo (w.heap.size + 1) 95 (arr32 (midW ps k 0)) := by
        have e : schedTo ps k ++ z32 (64 - k) = midW ps k 0 := by
          rw [midW, List.append_assoc, show 64 - k = 63 - k + 1 from by omega, z32, List.replicate_succ]
          rfl
        rw [← e]; exact B3
      have HB2 := Lib.hid B2
      have HS := Lib.hid hstart
      have HB := Lib.hid hb
      clear B2 B3 hb hstart
      have hkd : decide ((k : Int) < 16) = true := by rw [decide_eq_true_eq]; omega
      go_wp2_with fail
      go_loopw [5] (fun v5 wr => ∃ j : Nat, j ≤ 4 ∧ v5 = .int .i64 j ∧ Blk wr w.heap.size 95 (arr32 (z32 64)) ∧
          Blk wr (w.heap.size + 1) 95 (arr32 (midW ps k (bigN ((ps.drop (4 * k)).take j)))) ∧ Below w.heap.size w wr) (fun v5 _ => 4 - (intOf v5).toNat)
      case atStart => exact ⟨0, by omega, rfl, HB2.out, HS.out, HB.out⟩
      case round =>
        clear HB2 HS HB
        obtain ⟨j, hj4, rfl, C2, C3, hb⟩ := hrel
        have hzr := hb.size
        by_cases hlt4 : j < 4
        · have hjl : 4 * k + j < ps.length := by rw [hl.out]; omega
          obtain ⟨x, hx⟩ : ∃ x, x = ps[4 * k + j] := ⟨_, rfl⟩
          have hcell : wr.cell? ⟨b, off + (4 * k + j), none⟩ = some (.int .u8 (x.toNat : Int)) := (hb.cell (p := ⟨b, off + (4 * k + j), none⟩) (Nat.lt_of_lt_of_le hbB hB)).trans (HJ.out _ _ (by rw [hx]; exact List.getElem?_eq_getElem hjl))
          have htk : (ps.drop (4 * k)).take (j + 1) = (ps.drop (4 * k)).take j ++ [x] := by
            rw [List.take_succ_eq_append_getElem (by rw [List.length_drop]; omega), List.getElem_drop, hx]
          have hlen3 : ((ps.drop (4 * k)).take j).length ≤ 3 := Nat.le_trans (List.length_take_le _ _) (by omega)
          have hN := word_lt ((ps.drop (4 * k)).take j) (by omega)
          have hstep := word_step _ hlen3 x
          rw [← htk] at hstep
          have hN1 := word_lt ((ps.drop (4 * k)).take (j + 1)) (Nat.le_trans (List.length_take_le _ _) (by omega))
          have hset : ∀ N' : Nat, N' < 4294967296 → (arr32 (midW ps k (bigN ((ps.drop (4 * k)).take j)))).setIfInBounds k (.int .u32 (N' : Int)) = arr32 (midW ps k N') := fun N' h' => by
            have e : Value.int .u32 (N' : Int) = b32 (UInt32.ofNat N') := by rw [b32, UInt32.toNat_ofNat', Nat.mod_eq_of_lt (by omega)]
            rw [e, arr32, arr32, List.setIfInBounds_toArray, ← List.map_set, midW, List.append_assoc, List.set_append_right _ _ (by rw [hls.out]; exact Nat.le_refl _), hls.out, Nat.sub_self, midW, List.append_assoc]
            rfl
          have hck : wr.cell? ⟨w.heap.size + 1, k, none⟩ = some (.int .u32 (bigN ((ps.drop (4 * k)).take j) : Int)) := by
            rw [C3.cell, arr32_get, midW, List.append_assoc, List.getElem?_append_right (by rw [hls.out]; exact Nat.le_refl _), hls.out, Nat.sub_self]
            show some (b32 (UInt32.ofNat _)) = _
            rw [b32, UInt32.toNat_ofNat', Nat.mod_eq_of_lt (by omega)]
          have hfk := C3.frozen k
          obtain ⟨q, hq⟩ : ∃ q, q = 4 * k + j := ⟨_, rfl⟩
          rw [← hq] at hcell
          have hq64 : q < 64 := by omega
          have t1 : IntKind.i64.wrap (4 * (k : Int)) = 4 * (k : Int) := IntWalk.i64_in _ (by omega)
          have t2 : IntKind.i64.wrap (4 * (k : Int) + (j : Int)) = (q : Int) := (IntWalk.i64_in _ (by omega)).trans (by omega)
          have t3 : (0 : Int) ≤ (q : Int) := by omega
          have t4 : (q : Int) < 64 := by omega
          have t5 : (0 : Int) ≤ (k : Int) := by omega
          have t6 : (k : Int) < 64 := by omega
          obtain ⟨N, hNN⟩ : ∃ N, N = bigN ((ps.drop (4 * k)).take j) := ⟨_, rfl⟩
          rw [← hNN] at hck hN hset hstep C3
          have HSET := Lib.hid hset
          have HSTEP := Lib.hid hstep
          have HN := Lib.hid hN
          have HN1 := Lib.hid hN1
          have HC2 := Lib.hid C2
          have HC3 := Lib.hid C3
          have HB := Lib.hid hb
          clear hq hx htk hlen3 hN hNN hstep hset hN1 C2 C3 hb hjl
          go_wp2_with fail
          refine wp_region_still_tail 15 (by kernel_rfl) (by kernel_rfl) ?_
          simp only [List.take_succ_cons, List.take_zero, List.drop_succ_cons, List.drop_zero]
          change wpStill _ _ wr.drew (fun a' => wpList _ _ _ _ a' wr.drew) _ _
          obtain ⟨w2, hw2⟩ : ∃ w2, w2 = wr.drew := ⟨_, rfl⟩
          rw [← hw2]
          have d1 : w2.cell? ⟨b, off + q, none⟩ = some (.int .u8 (x.toNat : Int)) := by rw [hw2]; exact hcell
          have d2 : w2.cell? ⟨w.heap.size + 1, k, none⟩ = some (.int .u32 (N : Int)) := by rw [hw2]; exact hck
          have d3 : w2.frozen? ⟨w.heap.size + 1, k, none⟩ = false := by rw [hw2]; exact hfk
          have DC2 : Hid (Blk w2 w.heap.size 95 (arr32 (z32 64))) := Lib.hid (by rw [hw2]; exact HC2.out)
          have DC3 : Hid (Blk w2 (w.heap.size + 1) 95 (arr32 (midW ps k N))) := Lib.hid (by rw [hw2]; exact HC3.out)
          have DB : Hid (Below w.heap.size w w2) := Lib.hid (by rw [hw2]; exact HB.out.drew)
          clear hw2 hcell hck hfk
          repeat still_step
          refine wpStill_nil ?_
          clear t1 t2 t3 t4 t5 t6
          go_wp2_with fail
          go_roundw
          case rel =>
            refine ⟨j + 1, by omega, by go_num, DC2.out.far (by simp) _, ?_, DB.out.setCell (by simp) _⟩
            have e : ((N : Int) * 256 + (x.toNat : Int)) % 4294967296 = ((bigN ((ps.drop (4 * k)).take (j + 1)) : Nat) : Int) := by rw [← HSTEP.out]; omega
            rw [e, ← HSET.out _ HN1.out]
            exact DC3.out.set_ k _
          case measure => simp [intOf]; omega
        · obtain rfl : j = 4 := by omega
          have C3' : Hid (Blk wr (w.heap.size + 1) 95 (arr32 (schedTo ps (k + 1) ++ z32 (64 - (k + 1))))) := Lib.hid (by
            have e : midW ps k (bigN ((ps.drop (4 * k)).take 4)) = schedTo ps (k + 1) ++ z32 (64 - (k + 1)) := by
              rw [midW, schedTo, nextW, if_pos hlt, wordAt, show 64 - (k + 1) = 63 - k from by omega]
            rw [← e]; exact C3)
          have HC2 := Lib.hid C2
          have HB := Lib.hid hb
          clear C2 C3 hb
          go_wp2_with fail
          go_roundw
          case rel => exact ⟨k + 1, by omega, by go_num, HC2.out, C3'.out, HB.out⟩
          case measure => simp [intOf]; omega
    · have hk16 : k = 16 := by omega
      have HB2 := Lib.hid B2
      have HB3 : Hid (Blk wo (w.heap.size + 1) 95 (arr32 (schedTo ps 16 ++ z32 (64 - 16)))) := Lib.hid (by rw [← hk16]; exact B3)
      have hkd : decide ((k : Int) < 16) = false := by rw [decide_eq_false_iff_not]; omega
      clear hk16
      have HB := Lib.hid hb
      clear B2 B3 hb
      go_wp2_with fail
      go_loopw [6] (fun v6 wr => ∃ k : Nat, 16 ≤ k ∧ k ≤ 64 ∧ v6 = .int .i64 (k : Int) ∧ Blk wr w.heap.size 95 (arr32 (z32 64)) ∧
          Blk wr (w.heap.size + 1) 95 (arr32 (schedTo ps k ++ z32 (64 - k))) ∧ Below w.heap.size w wr) (fun v6 _ => 64 - (intOf v6).toNat)
      case atStart => exact ⟨16, by omega, by omega, rfl, HB2.out, HB3.out, HB.out⟩
      case round =>
        clear HB2 HB3 HB hlt hkd hls
        obtain ⟨k, hk16, hk64, rfl, B2, B3, hb⟩ := hrel
        have hzr := hb.size
        have hls := Lib.hid (len_schedTo ps k)
        by_cases hlt : k < 64
        · have get : ∀ j, j < k → wr.cell? ⟨w.heap.size + 1, j, none⟩ = some (.int .u32 (((schedTo ps k)[j]?.getD 0).toNat : Int)) := fun j hj => by
            rw [B3.cell]; exact arr32_at _ j (by rw [hls.out]; exact hj) _
          have c15 := get (k - 15) (by omega)
          have c2 := get (k - 2) (by omega)
          have c16 := get (k - 16) (by omega)
          have c7 := get (k - 7) (by omega)
          have hf := B3.frozen k
          have hc : wr.cell? ⟨w.heap.size + 1, k, none⟩ = some (.int .u32 0) := by
            rw [B3.cell, arr32_get, List.getElem?_append_right (by rw [hls.out]; exact Nat.le_refl _), hls.out, Nat.sub_self, z32, List.getElem?_replicate, if_pos (by omega)]
            rfl
          have hnx : nextW ps (schedTo ps k) k = (schedTo ps k)[k - 16]?.getD 0 + (schedTo ps k)[k - 7]?.getD 0 + sig0 ((schedTo ps k)[k - 15]?.getD 0) + sig1 ((schedTo ps k)[k - 2]?.getD 0) := by rw [nextW, if_neg (by omega)]
          have HN := Lib.hid hnx
          have HB2 := Lib.hid B2
          have HB3 := Lib.hid B3
          have HB := Lib.hid hb
          generalize (schedTo ps k)[k - 16]?.getD 0 = x16 at *
          generalize (schedTo ps k)[k - 15]?.getD 0 = x15 at *
          generalize (schedTo ps k)[k - 7]?.getD 0 = x7 at *
          generalize (schedTo ps k)[k - 2]?.getD 0 = x2 at *
          clear B2 B3 hb get hnx
          have h16' : (16 : Int) ≤ (k : Int) := by omega
          go_wp2_with fail
          go_quiet (first
            | (go_at_call 74; exact quiet_left (refrotr_c _ _ (by omega) (by omega) _))
            | (go_at_call 61; exact quiet_left (refshr_c _ _ (by omega) (by omega) _)))
          generalize nq = q1
          go_wp2_with fail
          go_quiet (first
            | (go_at_call 74; exact quiet_add_left (refrotr_c _ _ (by omega) (by omega) _))
            | (go_at_call 61; exact quiet_add_left (refshr_c _ _ (by omega) (by omega) _)))
          go_wp2_with fail
          rw [xor32, xor32, xor32, xor32]
          generalize hS0 : rotR x15 7 ^^^ rotR x15 18 ^^^ shR x15 3 = y0
          generalize hS1 : rotR x2 17 ^^^ rotR x2 19 ^^^ shR x2 10 = y1
          have HS0 := Lib.hid hS0
          have HS1 := Lib.hid hS1
          clear hS0 hS1
          have t1 : IntKind.i64.wrap ((k : Int) - 16) = (k : Int) - 16 := IntWalk.i64_in _ (by omega)
          have t2 : IntKind.i64.wrap ((k : Int) - 7) = (k : Int) - 7 := IntWalk.i64_in _ (by omega)
          have t3 : (0 : Int) ≤ (k : Int) - 16 := by omega
          have t4 : (0 : Int) ≤ (k : Int) - 7 := by omega
          have t5 : (k : Int) - 16 < 64 := by omega
          have t6 : (k : Int) - 7 < 64 := by omega
          have t9 : (7 : Int) ≤ (k : Int) := by omega
          have t10 : (k : Int) < 64 := by omega
          have t7 : ((k : Int) - 16).toNat = k - 16 := by omega
          have t8 : ((k : Int) - 7).toNat = k - 7 := by omega
          refine wp_region_still_tail 15 (by kernel_rfl) (by kernel_rfl) ?_
          simp only [List.take_succ_cons, List.take_zero, List.drop_succ_cons, List.drop_zero]
          change wpStill _ _ ((wr.drewN q1).drewN nq).drew (fun a' => wpList _ _ _ _ a' ((wr.drewN q1).drewN nq).drew) _ _
          obtain ⟨w2, hw2⟩ : ∃ w2, w2 = ((wr.drewN q1).drewN nq).drew := ⟨_, rfl⟩
          rw [← hw2]
          have d16 : w2.cell? ⟨w.heap.size + 1, k - 16, none⟩ = some (.int .u32 (x16.toNat : Int)) := by rw [hw2]; exact c16
          have d7 : w2.cell? ⟨w.heap.size + 1, k - 7, none⟩ = some (.int .u32 (x7.toNat : Int)) := by rw [hw2]; exact c7
          have df : w2.frozen? ⟨w.heap.size + 1, k, none⟩ = false := by rw [hw2]; exact hf
          have dc : w2.cell? ⟨w.heap.size + 1, k, none⟩ = some (.int .u32 0) := by rw [hw2]; exact hc
          have DB2 : Hid (Blk w2 w.heap.size 95 (arr32 (z32 64))) := Lib.hid (by rw [hw2]; exact HB2.out)
          have DB3 : Hid (Blk w2 (w.heap.size + 1) 95 (arr32 (schedTo ps k ++ z32 (64 - k)))) := Lib.hid (by rw [hw2]; exact HB3.out)
          have DB : Hid (Below w.heap.size w w2) := Lib.hid (by rw [hw2]; exact (below_drewN (below_drewN HB.out q1) nq).drew)
          clear hw2 c15 c2 c16 c7 hf hc
          repeat still_step
          refine wpStill_nil ?_
          clear t1 t2 t3 t4 t5 t6 t7 t8 t9 t10
          go_wp2_with fail
          go_roundw
          case rel =>
            have e : ((y1.toNat : Int) + (x7.toNat : Int) + (y0.toNat : Int) + (x16.toNat : Int)) % 4294967296 = ((nextW ps (schedTo ps k) k).toNat : Int) := by
              rw [show (y1.toNat : Int) + (x7.toNat : Int) + (y0.toNat : Int) + (x16.toNat : Int) = (x16.toNat : Int) + (x7.toNat : Int) + (y0.toNat : Int) + (y1.toNat : Int) from by omega, sum4, HN.out, sig0, sig1, HS0.out, HS1.out]
            rw [e]
            refine ⟨k + 1, by omega, by omega, by go_num, DB2.out.far (by simp) _, ?_, DB.out.setCell (by simp) _⟩
            show Blk _ _ _ (arr32 ((schedTo ps k ++ [nextW ps (schedTo ps k) k]) ++ z32 (64 - (k + 1))))
            rw [← arr32_next _ 64 k hls.out hlt]
            exact DB3.out.set_ k _
          case measure => simp [intOf]; omega
        · obtain rfl : k = 64 := by omega
          have B3' : Blk wr (w.heap.size + 1) 95 (arr32 (sched ps)) := by simpa [z32, sched] using B3
          have HB := Lib.hid hb
          clear B3 hb
          go_wp2_with (first
            | ((with_reducible show wpList _ _ _ (Oper.mk (some 85) (Op.load 95 _) _ _ _ _ :: _) _ _); refine wpList_load_whole rfl 95 (.tmp 3) rfl (w.heap.size + 1) rfl (arr32 (sched ps)) agg24 (by rw [size_arr32, len_sched]) 95 B3' ?_)
            | ((with_reducible show wpList _ _ _ (Oper.mk none (Op.store 95 _ _) _ _ _ _ :: _) _ _); refine wpList_store32 rfl 95 (.tmp 2) (.tmp 85) rfl w.heap.size rfl (sched ps) rfl agg24 (len_sched _) _ _ B2 (by rw [size_arr32, len_z32]) ?_; intro w5 hb5 hg5 hs5))
          refine bodyPost_ret (results_cell_one rfl _ w.heap.size _ (arr32 (sched ps)) agg24 (by rw [size_arr32, len_sched]) rfl hb5) rfl ⟨rfl, ?_⟩
          exact HB.out.grown hg5 hzr (fun k hk => by cases hk; exact Nat.le_refl _)
end Go.Proofs.Ytdifepfplfkfoaa
end

/-
  The reference's Take.
-/
section
namespace Go.Proofs.Ytdifepfplfkfoaa
open Go.RowKit
set_option linter.unusedVariables false
set_option maxRecDepth 100000

theorem ch_eq (e f g : UInt32) : (e &&& f) ^^^ (~~~e &&& g) = g ^^^ (e &&& (f ^^^ g)) := by
  apply UInt32.toBitVec_inj.1
  simp only [UInt32.toBitVec_xor, UInt32.toBitVec_and, UInt32.toBitVec_not]
  apply BitVec.eq_of_getLsbD_eq
  intro i hi
  simp only [BitVec.getLsbD_xor, BitVec.getLsbD_and, BitVec.getLsbD_not, hi, decide_true, Bool.true_and]
  cases e.toBitVec.getLsbD i <;> cases f.toBitVec.getLsbD i <;> cases g.toBitVec.getLsbD i <;> rfl
theorem maj_eq (a b c : UInt32) : (a &&& b) ^^^ (a &&& c) ^^^ (b &&& c) = (a &&& b ||| c &&& (a ||| b)) := by
  apply UInt32.toBitVec_inj.1
  simp only [UInt32.toBitVec_xor, UInt32.toBitVec_and, UInt32.toBitVec_or]
  apply BitVec.eq_of_getLsbD_eq
  intro i hi
  simp only [BitVec.getLsbD_xor, BitVec.getLsbD_and, BitVec.getLsbD_or]
  cases a.toBitVec.getLsbD i <;> cases b.toBitVec.getLsbD i <;> cases c.toBitVec.getLsbD i <;> rfl

theorem not32 (e : UInt32) : bits .xor .u32 (if IntKind.u32.signed = true then -1 else IntKind.u32.max) (e.toNat : Int) = ((~~~e).toNat : Int) := by
  have h : (if IntKind.u32.signed = true then -1 else IntKind.u32.max) = (((4294967295 : UInt32).toNat : Nat) : Int) := by rfl
  rw [h, xor32]
  have e : (4294967295 ^^^ e) = ~~~e := rfl
  rw [e]
theorem tee_ref (e f g z k x : UInt32) : ((z.toNat : Int) + bits .xor .u32 (bits .xor .u32 ((rotR e 6).toNat : Int) ((rotR e 11).toNat : Int)) ((rotR e 25).toNat : Int) +
    bits .xor .u32 (bits .and .u32 (e.toNat : Int) (f.toNat : Int)) (bits .and .u32 (bits .xor .u32 (if IntKind.u32.signed = true then -1 else IntKind.u32.max) (e.toNat : Int)) (g.toNat : Int)) + (k.toNat : Int) + (x.toNat : Int)) % 4294967296 = ((tee e f g z k x).toNat : Int) := by
  rw [not32, xor32, xor32, and32, and32, xor32, ch_eq, tee, UInt32.toNat_add, UInt32.toNat_add, UInt32.toNat_add, UInt32.toNat_add]
  omega
theorem yoo_ref (a b c : UInt32) : (bits .xor .u32 (bits .xor .u32 ((rotR a 2).toNat : Int) ((rotR a 13).toNat : Int)) ((rotR a 22).toNat : Int) +
    bits .xor .u32 (bits .xor .u32 (bits .and .u32 (a.toNat : Int) (b.toNat : Int)) (bits .and .u32 (a.toNat : Int) (c.toNat : Int))) (bits .and .u32 (b.toNat : Int) (c.toNat : Int))) % 4294967296 = ((yoo a b c).toNat : Int) := by
  rw [xor32, xor32, and32, and32, and32, xor32, xor32, maj_eq, yoo, UInt32.toNat_add]
  omega
theorem add32m (x y : UInt32) : ((x.toNat : Int) + (y.toNat : Int)) % 4294967296 = ((x + y).toNat : Int) := by rw [← add32, IntKind.wrap_u32']

/-- A schedule is taken with any constants. -/
def takeHK (h w k : List UInt32) : List UInt32 := List.zipWith (· + ·) h (takeTo h w k 64)

set_option maxHeartbeats 2000000 in
theorem reftake_c (hs ws ks : List UInt32) (hh : hs.length = 8) (hw : ws.length = 64) (hk : ks.length = 64) (w : World) :
    Calls Try.prog 59 #[.agg (arr32 hs), .agg (arr32 ws), .agg (arr32 ks)] w fun e w' => e = .returned (.agg (arr32 (takeHK hs ws ks))) ∧ Below w.heap.size w w' := by
  obtain ⟨h0, h1, h2, h3, h4, h5, h6, h7, rfl⟩ := eight hh
  have HW := Lib.hid hw
  have HKs := Lib.hid hk
  have b1 := Blk.new w 88 (arr32 [h0, h1, h2, h3, h4, h5, h6, h7])
  have b2 := Blk.new (w.alloc (.cells (arr32 [h0, h1, h2, h3, h4, h5, h6, h7]) 88)) 95 (arr32 ws)
  have b3 := Blk.new ((w.alloc (.cells (arr32 [h0, h1, h2, h3, h4, h5, h6, h7]) 88)).alloc (.cells (arr32 ws) 95)) 95 (arr32 ks)
  have b4 := Blk.new (((w.alloc (.cells (arr32 [h0, h1, h2, h3, h4, h5, h6, h7]) 88)).alloc (.cells (arr32 ws) 95)).alloc (.cells (arr32 ks) 95)) 88 (arr32 (z32 8))
  simp only [World.size_alloc] at b2 b3 b4
  have B1 := ((b1.alloc (.cells (arr32 ws) 95)).alloc (.cells (arr32 ks) 95)).alloc (.cells (arr32 (z32 8)) 88)
  have B2 := (b2.alloc (.cells (arr32 ks) 95)).alloc (.cells (arr32 (z32 8)) 88)
  have B3 := b3.alloc (.cells (arr32 (z32 8)) 88)
  have hb : Below w.heap.size w ((((w.alloc (.cells (arr32 [h0, h1, h2, h3, h4, h5, h6, h7]) 88)).alloc (.cells (arr32 ws) 95)).alloc (.cells (arr32 ks) 95)).alloc (.cells (arr32 (z32 8)) 88)) := ((((Below.refl _ _).alloc (Nat.le_refl _) _).alloc (by simp) _).alloc (by simp; omega) _).alloc (by simp; omega) _
  clear hh hw hk b1 b2 b3
  go_enter Try.func59, Try.ntmps59
  go_wp2_with ((with_reducible show wpList _ _ _ (Oper.mk _ (Op.alloc 88) _ _ _ _ :: _) _ _); refine wpList_alloc_agg rfl 88 rfl (arr32 (z32 8)) zero26 ?_; (try simp only [World.size_alloc]))
  simp only [Act.put, List.setIfInBounds_toArray, List.set_cons_succ, List.set_cons_zero]
  obtain ⟨w3, hw3⟩ : ∃ w3 : World, w3 = ((((w.alloc (.cells (arr32 [h0, h1, h2, h3, h4, h5, h6, h7]) 88)).alloc (.cells (arr32 ws) 95)).alloc (.cells (arr32 ks) 95)).alloc (.cells (arr32 (z32 8)) 88)) := ⟨_, rfl⟩
  rw [← hw3] at B1 B2 B3 b4 hb ⊢
  clear hw3
  have c0 : w3.cell? ⟨w.heap.size, 0, none⟩ = some (.int .u32 (h0.toNat : Int)) := by rw [B1.cell]; rfl
  have c1 : w3.cell? ⟨w.heap.size, 1, none⟩ = some (.int .u32 (h1.toNat : Int)) := by rw [B1.cell]; rfl
  have c2 : w3.cell? ⟨w.heap.size, 2, none⟩ = some (.int .u32 (h2.toNat : Int)) := by rw [B1.cell]; rfl
  have c3 : w3.cell? ⟨w.heap.size, 3, none⟩ = some (.int .u32 (h3.toNat : Int)) := by rw [B1.cell]; rfl
  have c4 : w3.cell? ⟨w.heap.size, 4, none⟩ = some (.int .u32 (h4.toNat : Int)) := by rw [B1.cell]; rfl
  have c5 : w3.cell? ⟨w.heap.size, 5, none⟩ = some (.int .u32 (h5.toNat : Int)) := by rw [B1.cell]; rfl
  have c6 : w3.cell? ⟨w.heap.size, 6, none⟩ = some (.int .u32 (h6.toNat : Int)) := by rw [B1.cell]; rfl
  have c7 : w3.cell? ⟨w.heap.size, 7, none⟩ = some (.int .u32 (h7.toNat : Int)) := by rw [B1.cell]; rfl
  have HB1 := Lib.hid B1
  have HB2 := Lib.hid B2
  have HB3 := Lib.hid B3
  have HB4 := Lib.hid b4
  have HB := Lib.hid hb
  clear B1 B2 B3 b4 hb
  go_quiet (fail)
  go_wp2_with fail
  clear c0 c1 c2 c3 c4 c5 c6 c7
  go_loopw [7, 8, 9, 10, 11, 12, 13, 14, 15] (fun v7 v8 v9 v10 v11 v12 v13 v14 v15 wr => ∃ (i : Nat) (a b c d e f g z : UInt32), i ≤ 64 ∧ takeTo [h0, h1, h2, h3, h4, h5, h6, h7] ws ks i = [a, b, c, d, e, f, g, z] ∧ v15 = .int .i64 (i : Int) ∧
      v7 = .int .u32 (a.toNat : Int) ∧ v8 = .int .u32 (b.toNat : Int) ∧ v9 = .int .u32 (c.toNat : Int) ∧ v10 = .int .u32 (d.toNat : Int) ∧ v11 = .int .u32 (e.toNat : Int) ∧ v12 = .int .u32 (f.toNat : Int) ∧ v13 = .int .u32 (g.toNat : Int) ∧ v14 = .int .u32 (z.toNat : Int) ∧
      Blk wr w.heap.size 88 (arr32 [h0, h1, h2, h3, h4, h5, h6, h7]) ∧ Blk wr (w.heap.size + 1) 95 (arr32 ws) ∧ Blk wr (w.heap.size + 2) 95 (arr32 ks) ∧ Blk wr (w.heap.size + 3) 88 (arr32 (z32 8)) ∧ Below w.heap.size w wr)
    (fun _ _ _ _ _ _ _ _ v15 _ => 64 - (intOf v15).toNat)
  case atStart => exact ⟨0, _, _, _, _, _, _, _, _, by omega, rfl, rfl, rfl, rfl, rfl, rfl, rfl, rfl, rfl, rfl, HB1.out.drewN _, HB2.out.drewN _, HB3.out.drewN _, HB4.out.drewN _, below_drewN HB.out _⟩
  case round =>
    clear HB1 HB2 HB3 HB4 HB
    obtain ⟨i, a, b, c, d, e, f, g, z, hi, hv, rfl, rfl, rfl, rfl, rfl, rfl, rfl, rfl, rfl, B1, B2, B3, B4, hb⟩ := hrel
    have hz := hb.size
    have HV := Lib.hid hv
    clear hv
    by_cases hlt : i < 64
    · have hcw : wr.cell? ⟨w.heap.size + 1, i, none⟩ = some (.int .u32 ((ws[i]?.getD 0).toNat : Int)) := by rw [B2.cell, arr32_get, List.getElem?_eq_getElem (by rw [HW.out]; exact hlt)]; rfl
      have hck : wr.cell? ⟨w.heap.size + 2, i, none⟩ = some (.int .u32 ((ks[i]?.getD 0).toNat : Int)) := by rw [B3.cell, arr32_get, List.getElem?_eq_getElem (by rw [HKs.out]; exact hlt)]; rfl
      obtain ⟨x, hx⟩ : ∃ x, x = ws[i]?.getD 0 := ⟨_, rfl⟩
      obtain ⟨k, hk⟩ : ∃ k, k = ks[i]?.getD 0 := ⟨_, rfl⟩
      rw [← hx] at hcw
      rw [← hk] at hck
      have HX := Lib.hid hx
      have HK := Lib.hid hk
      have HB1 := Lib.hid B1
      have HB2 := Lib.hid B2
      have HB3 := Lib.hid B3
      have HB4 := Lib.hid B4
      have HB := Lib.hid hb
      have hi0 : (0 : Int) ≤ (i : Int) := by omega
      have hi1 : (i : Int) < 64 := by omega
      clear hx hk B1 B2 B3 B4 hb
      go_wp2_with fail
      go_quiet ((go_at_call 74; exact quiet_left (refrotr_c _ _ (by omega) (by omega) _)))
      go_wp2_with (go_at_call 74; refine (refrotr_c _ _ (by omega) (by omega) _).mono ?_; rintro e w' ⟨rfl, rfl⟩)
      go_roundw
      case rel =>
        rw [tee_ref, yoo_ref, add32m, add32m]
        refine ⟨i + 1, _, _, _, _, _, _, _, _, by omega, ?_, by go_num, rfl, rfl, rfl, rfl, rfl, rfl, rfl, rfl, HB1.out.drewN _, HB2.out.drewN _, HB3.out.drewN _, HB4.out.drewN _, below_drewN HB.out _⟩
        rw [takeTo, HV.out, ← HX.out, ← HK.out, stp]
      case measure => simp [intOf]; omega
    · obtain rfl : i = 64 := by omega
      have c0 : wr.cell? ⟨w.heap.size, 0, none⟩ = some (.int .u32 (h0.toNat : Int)) := by rw [B1.cell]; rfl
      have c1 : wr.cell? ⟨w.heap.size, 1, none⟩ = some (.int .u32 (h1.toNat : Int)) := by rw [B1.cell]; rfl
      have c2 : wr.cell? ⟨w.heap.size, 2, none⟩ = some (.int .u32 (h2.toNat : Int)) := by rw [B1.cell]; rfl
      have c3 : wr.cell? ⟨w.heap.size, 3, none⟩ = some (.int .u32 (h3.toNat : Int)) := by rw [B1.cell]; rfl
      have c4 : wr.cell? ⟨w.heap.size, 4, none⟩ = some (.int .u32 (h4.toNat : Int)) := by rw [B1.cell]; rfl
      have c5 : wr.cell? ⟨w.heap.size, 5, none⟩ = some (.int .u32 (h5.toNat : Int)) := by rw [B1.cell]; rfl
      have c6 : wr.cell? ⟨w.heap.size, 6, none⟩ = some (.int .u32 (h6.toNat : Int)) := by rw [B1.cell]; rfl
      have c7 : wr.cell? ⟨w.heap.size, 7, none⟩ = some (.int .u32 (h7.toNat : Int)) := by rw [B1.cell]; rfl
      have hfin : takeHK [h0, h1, h2, h3, h4, h5, h6, h7] ws ks = [h0 + a, h1 + b, h2 + c, h3 + d, h4 + e, h5 + f, h6 + g, h7 + z] := by rw [takeHK, HV.out]; rfl
      have HF := Lib.hid hfin
      have HB4 := Lib.hid B4
      have HB := Lib.hid hb
      clear B1 B2 B3 B4 hb hfin
      go_wp2_with ((with_reducible show wpList _ _ _ (Oper.mk none (Op.store 88 _ _) _ _ _ _ :: _) _ _); refine wpList_store32 rfl 88 (.tmp 6) (.tmp 129) rfl (w.heap.size + 3) rfl [h0 + a, h1 + b, h2 + c, h3 + d, h4 + e, h5 + f, h6 + g, h7 + z] (by show Value.agg #[.int .u32 (((h0.toNat : Int) + (a.toNat : Int)) % 4294967296), .int .u32 (((h1.toNat : Int) + (b.toNat : Int)) % 4294967296), .int .u32 (((h2.toNat : Int) + (c.toNat : Int)) % 4294967296), .int .u32 (((h3.toNat : Int) + (d.toNat : Int)) % 4294967296), .int .u32 (((h4.toNat : Int) + (e.toNat : Int)) % 4294967296), .int .u32 (((h5.toNat : Int) + (f.toNat : Int)) % 4294967296), .int .u32 (((h6.toNat : Int) + (g.toNat : Int)) % 4294967296), .int .u32 (((h7.toNat : Int) + (z.toNat : Int)) % 4294967296)] = _; simp only [add32m]; rfl) agg26 rfl _ _ HB4.out (by rw [size_arr32, len_z32]) ?_; intro w9 hb9 hg9 hs9)
      refine bodyPost_ret (results_cell_one rfl _ (w.heap.size + 3) _ (arr32 _) agg26 rfl rfl hb9) rfl ⟨by rw [HF.out], ?_⟩
      exact HB.out.grown hg9 hz (fun k hk => by cases hk; omega)
end Go.Proofs.Ytdifepfplfkfoaa
end

/-
  citadelref04.Table: the constants and the beginning.
-/
section
namespace Go.Proofs.Ytdifepfplfkfoaa.digestTake
open Go.RowKit
set_option linter.unusedVariables false
set_option maxRecDepth 100000

theorem results_cell_two {P : Program} {w : World} {n m : Nat} {fn : Func} {p q : Tmp} {ty ty2 : TypeId} (hr : fn.results = #[.cell p ty, .cell q ty2]) (tmps : Array Value) (g g2 : Nat) (tb tb2 : TypeId) (cs cs2 : Array Value) (hT : AggT P ty n) (hn : cs.size = n) (hT2 : AggT P ty2 m) (hm : cs2.size = m)
    (hp : tmps.getD p undef = .pointer (some ⟨g, 0, none⟩)) (hq : tmps.getD q undef = .pointer (some ⟨g2, 0, none⟩)) (hb : Blk w g tb cs) (hb2 : Blk w g2 tb2 cs2) : (results fn tmps).run P w = .ok (.tuple #[.agg cs, .agg cs2]) w := by
  have hl := run_loadVar_agg (P := P) (w := w) g 0 cs (hn ▸ hT) (fun j v hv => by rw [Nat.zero_add, hb.cell]; exact hv)
  have hl2 := run_loadVar_agg (P := P) (w := w) g2 0 cs2 (hm ▸ hT2) (fun j v hv => by rw [Nat.zero_add, hb2.cell]; exact hv)
  have hp' : tmps[p]?.getD undef = .pointer (some ⟨g, 0, none⟩) := by simpa using hp
  have hq' : tmps[q]?.getD undef = .pointer (some ⟨g2, 0, none⟩) := by simpa using hq
  simp [results, hr, hp', hq', asAddr, hl, hl2]

set_option maxHeartbeats 400000 in
theorem table_c (w : World) : Calls Try.prog 58 #[] w fun e w' => e = .returned (.tuple #[.agg (arr32 K64), .agg (arr32 H8)]) ∧ Below w.heap.size w w' := by
  have b1 := (Blk.new w 95 (arr32 (z32 64))).alloc (.cells (arr32 (z32 8)) 88)
  have b2 := Blk.new (w.alloc (.cells (arr32 (z32 64)) 95)) 88 (arr32 (z32 8))
  rw [World.size_alloc] at b2
  go_enter Try.func58, Try.ntmps58
  go_wp2_with (first
    | ((with_reducible show wpList _ _ _ (Oper.mk _ (Op.alloc 95) _ _ _ _ :: _) _ _); refine wpList_alloc_agg rfl 95 rfl (arr32 (z32 64)) zero24 ?_; (try rw [World.size_alloc]))
    | ((with_reducible show wpList _ _ _ (Oper.mk _ (Op.alloc 88) _ _ _ _ :: _) _ _); refine wpList_alloc_agg rfl 88 rfl (arr32 (z32 8)) zero26 ?_; (try rw [World.size_alloc]))
    | ((with_reducible show wpList _ _ _ (Oper.mk _ (Op.build 95 _) _ _ _ _ :: _) _ _); refine wpList_build rfl 95 _ rfl _ rfl (.agg (arr32 K64)) (by kernel_rfl) ?_)
    | ((with_reducible show wpList _ _ _ (Oper.mk _ (Op.build 88 _) _ _ _ _ :: _) _ _); refine wpList_build rfl 88 _ rfl _ rfl (.agg (arr32 H8)) (by kernel_rfl) ?_)
    | ((with_reducible show wpList _ _ _ (Oper.mk none (Op.store 95 _ _) _ _ _ _ :: _) _ _); refine wpList_store32 rfl 95 (.tmp 0) (.tmp 2) rfl w.heap.size rfl K64 rfl agg24 len_K64 _ _ b1 (by rw [size_arr32, len_z32]) ?_; intro w5 hb5 hg5 hs5; have b2' := b2.grown hg5 (by simp))
    | ((with_reducible show wpList _ _ _ (Oper.mk none (Op.store 88 _ _) _ _ _ _ :: _) _ _); refine wpList_store32 rfl 88 (.tmp 1) (.tmp 3) rfl (w.heap.size + 1) rfl H8 rfl agg26 len_H8 _ _ b2' (by rw [size_arr32, len_z32]) ?_; intro w6 hb6 hg6 hs6))
  refine bodyPost_ret (results_cell_two rfl _ w.heap.size (w.heap.size + 1) _ _ (arr32 K64) (arr32 H8) agg24 rfl agg26 rfl rfl rfl (hb5.grown hg6 (by simp)) hb6) rfl ⟨rfl, ?_⟩
  have h1 : Below w.heap.size w w5 := (((Below.refl _ _).alloc (Nat.le_refl _) _).alloc (by simp) _).grown hg5 (by simp; omega) (fun k hk => by cases hk; exact Nat.le_refl _)
  exact h1.grown hg6 h1.size (fun k hk => by cases hk; omega)

theorem reftakeK (hs ws : List UInt32) (hh : hs.length = 8) (hw : ws.length = 64) (w : World) :
    Calls Try.prog 59 #[.agg (arr32 hs), .agg (arr32 ws), .agg (arr32 K64)] w fun e w' => e = .returned (.agg (arr32 (takeH hs ws))) ∧ Below w.heap.size w w' := reftake_c hs ws K64 hh hw len_K64 w

end Go.Proofs.Ytdifepfplfkfoaa.digestTake
end
