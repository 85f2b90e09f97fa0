/-
  The reference's Fresh; both at any number of bytes.
-/
import Derived.Test.YtbjiokjmidipaaaFresh
namespace Go.Proofs.Ytbjiokjmidipaaa
open Go.RowKit
set_option linter.unusedVariables false
set_option linter.unusedSimpArgs false
set_option maxRecDepth 100000

theorem reffresh_bad (seed fr : Int) (m : Int) (hm : m < 1 ∨ 4096 < m) (w : World) :
    Calls Try.prog 45 #[.int .i64 seed, .int .i64 fr, .int .i64 m] w fun e w' => e = .returned (.tuple #[.slice none 0 0, .int .i64 fr]) ∧ w = w' := by
  by_cases h1 : m < 1
  · have hd : decide (m < 1) = true := decide_eq_true h1
    go_enter Try.func45, Try.ntmps45
    go_wp2_with fail
    go_ret2
    exact ⟨rfl, rfl⟩
  · have h2 : 4096 < m := by omega
    have hd : decide (m < 1) = false := decide_eq_false h1
    have hd2 : decide (4096 < m) = true := decide_eq_true h2
    go_enter Try.func45, Try.ntmps45
    go_wp2_with fail
    go_ret2
    exact ⟨rfl, rfl⟩

def sliceLen : Value → Nat
  | .slice _ n _ => n
  | _ => 0

set_option maxHeartbeats 2000000 in
theorem reffresh_c (seed fr : Int) (hs : (Lit.int .i64 seed).wf = true) (hf : (Lit.int .i64 fr).wf = true) (m : Nat) (hm1 : 1 ≤ m) (hm2 : m ≤ 4096) (w : World) :
    Calls Try.prog 45 #[.int .i64 seed, .int .i64 fr, .int .i64 (m : Int)] w fun e w' => ∃ A' c', e = .returned (.tuple #[.slice A' m c', .int .i64 (behindOf fr m)]) ∧ OwB w' w.heap.size A' m c' (freshOf seed fr m) ∧ Below w.heap.size w w' := by
  have hmi0 : ¬ (m : Int) < 1 := by omega
  have hmi1 : ¬ (4096 : Int) < (m : Int) := by omega
  have hd : decide ((m : Int) < 1) = false := decide_eq_false hmi0
  have hd2 : decide ((4096 : Int) < (m : Int)) = false := decide_eq_false hmi1
  have n0 : OwB w w.heap.size none 0 0 (drawsB seed fr 0) := OwB.nil _ _ _
  have hn0 := nth_zero hf
  go_enter Try.func45, Try.ntmps45
  go_wp2_with fail
  clear hd hd2
  go_loopw [8, 9] (fun v8 v9 wr => ∃ (j L : Nat) (A8 : Option Addr) (c8 : Nat), L = 32 * j ∧ L < m + 32 ∧ v9 = .int .i64 (nth fr j) ∧ v8 = .slice A8 L c8 ∧ OwB wr w.heap.size A8 L c8 (drawsB seed fr j) ∧ Below w.heap.size w wr) (fun v8 _ _ => 5000 - sliceLen v8)
  case atStart => exact ⟨0, 0, none, 0, rfl, by omega, by rw [hn0], rfl, n0, Below.refl _ _⟩
  case round =>
    clear n0
    obtain ⟨j, L, A8, c8, hL, hLm, rfl, rfl, h8, hb⟩ := hrel
    have hz := hb.size
    by_cases hlt : L < m
    · have hli : (L : Int) < (m : Int) := by omega
      have HL := Lib.hid hL
      have H8 := Lib.hid h8
      have HB := Lib.hid hb
      clear hL h8 hb
      go_wp2_with (first
        | (go_at_call 42; refine (refdraw_c seed (nth fr j) hs (nth_wf _ _) _).mono ?_; rintro e w1 ⟨rfl, hb1⟩; have b9 := Blk.new w1 40 (arr8 (z8' 32)))
        | ((with_reducible show wpList _ _ _ (Oper.mk _ (Op.alloc 40) _ _ _ _ :: _) _ _); refine wpList_alloc_agg rfl 40 rfl (arr8 (z8' 32)) zero44 ?_; (try rw [World.size_alloc]))
        | ((with_reducible show wpList _ _ _ (Oper.mk none (Op.store 40 (.tmp 10) _) _ _ _ _ :: _) _ _); refine wpList_store8 rfl 40 (.tmp 10) (.tmp 25) rfl w1.heap.size rfl (drawOf seed (nth fr j)) rfl agg44 (len_drawOf _ _) _ _ b9 (by rw [size_arr8, len_z8']) ?_; intro w2 hb2 hg2 hs2; have hall := arr_all_run (P := Try.prog) (T := 40) Try.underlying40 size1 (by omega) w1.heap.size; have hc12 : Below wr.heap.size wr w2 := (hb1.alloc hb1.size _).grown hg2 (Nat.le_trans hb1.size (by simp)) (fun k hk => by cases hk; exact hb1.size); have h82 := OwB.below H8.out hc12; have hbw2 := HB.out.trans (hc12.mono hz); have hs9 := sum_sl hb2 (len_drawOf _ _))
        | (at_builtin; refine wpList_append8 rfl (.tmp 26) (.tmp 27) rfl rfl h82 rfl hs9 (by omega) hbw2.size (L + 32) rfl ?_; intro A3 c3 w3 h3 q3; have hb3 : Below w.heap.size w w3 := q3.below h82 hbw2 (Nat.le_refl _) hbw2.size))
      exact ⟨⟨j + 1, L + 32, A3, c3, by rw [HL.out]; omega, by omega, by rw [nth_succ], by go_num, by rw [drawsB_succ]; exact h3, hb3⟩, by simp [sliceLen]; omega⟩
    · have hli : ¬ (L : Int) < (m : Int) := by omega
      have hmL : m ≤ L := by omega
      have hbe : nth fr j = behindOf fr m := by rw [behindOf, show (m + 31) / 32 = j by omega]
      have ho := OwB.trim h8 (k := m) hmL
      rw [freshOf_of seed fr (by omega) hm2] at ho
      have hc := h8.le
      have hcm := h8.cap
      clear h8
      go_wp2_with fail
      go_ret2
      exact ⟨A8, c8, rfl, ho, hb⟩

/-- Fresh bytes at any number; what comes behind. -/
def freshI (seed fr m : Int) : List UInt8 := if m < 1 ∨ 4096 < m then [] else freshOf seed fr m.toNat
def behindI (fr m : Int) : Int := if m < 1 ∨ 4096 < m then fr else behindOf fr m.toNat
theorem fresh_any (seed fr m : Int) (w : World) :
    Calls Try.prog 44 #[.int .i64 seed, .int .i64 fr, .int .i64 m] w fun e w' => ∃ A' n', e = .returned (.tuple #[.slice A' n' n', .int .i64 (behindI fr m)]) ∧ n' ≤ 4096 ∧ OwB w' w.heap.size A' n' n' (freshI seed fr m) ∧ Below w.heap.size w w' := by
  by_cases h : m < 1 ∨ 4096 < m
  · refine (fresh_bad seed fr m h w).mono ?_
    rintro e w' ⟨rfl, hb⟩
    refine ⟨none, 0, by rw [behindI, if_pos h], by omega, ?_, hb⟩
    rw [freshI, if_pos h]
    exact OwB.nil _ _ _
  · obtain ⟨k, rfl⟩ : ∃ k : Nat, m = (k : Int) := ⟨m.toNat, by omega⟩
    refine (fresh_c seed fr k (by omega) (by omega) w).mono ?_
    rintro e w' ⟨A', rfl, ho, hb⟩
    refine ⟨A', k, by rw [behindI, if_neg h]; rfl, by omega, ?_, hb⟩
    rw [freshI, if_neg h]
    exact ho
theorem reffresh_any (seed fr m : Int) (hs : (Lit.int .i64 seed).wf = true) (hf : (Lit.int .i64 fr).wf = true) (w : World) :
    Calls Try.prog 45 #[.int .i64 seed, .int .i64 fr, .int .i64 m] w fun e w' => ∃ A' n' c', e = .returned (.tuple #[.slice A' n' c', .int .i64 (behindI fr m)]) ∧ n' ≤ 4096 ∧ OwB w' w.heap.size A' n' c' (freshI seed fr m) ∧ Below w.heap.size w w' := by
  by_cases h : m < 1 ∨ 4096 < m
  · refine (reffresh_bad seed fr m h w).mono ?_
    rintro e w' ⟨rfl, rfl⟩
    refine ⟨none, 0, 0, by rw [behindI, if_pos h], by omega, ?_, Below.refl _ _⟩
    rw [freshI, if_pos h]
    exact OwB.nil _ _ _
  · obtain ⟨k, rfl⟩ : ∃ k : Nat, m = (k : Int) := ⟨m.toNat, by omega⟩
    refine (reffresh_c seed fr hs hf k (by omega) (by omega) w).mono ?_
    rintro e w' ⟨A', c', rfl, ho, hb⟩
    refine ⟨A', k, c', by rw [behindI, if_neg h]; rfl, by omega, ?_, hb⟩
    rw [freshI, if_neg h]
    exact ho
end Go.Proofs.Ytbjiokjmidipaaa
