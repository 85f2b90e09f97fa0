/-
  The reference's primes.
-/
import Derived.Test.YtbphoilfiahnpaaRefRoots
import Derived.Test.YtbphoilfiahnpaaRootC
namespace Go.Proofs.Ytbphoilfiahnpaa
open Go.RowKit
set_option linter.unusedVariables false
set_option linter.unusedSimpArgs false
set_option maxRecDepth 100000

theorem primesGo_succ (n p : Nat) (out : List Nat) : primesGo (n + 1) p out = primesGo n (p + 1) (prStep p out) := rfl
theorem primesGo_prefix (n p : Nat) (out : List Nat) : out <+: primesGo n p out := by
  induction n generalizing p out with
  | zero => exact List.prefix_rfl
  | succ n ih =>
    rw [primesGo_succ]
    refine List.IsPrefix.trans ?_ (ih ..)
    unfold prStep
    cases good p out
    · exact List.prefix_rfl
    · exact List.prefix_append ..
theorem good_cons (p q : Nat) (t : List Nat) : good p (q :: t) = (!(p % q == 0) && good p t) := by
  have e : good p (q :: t) = cond (Nat.beq (p % q) 0) false (good p t) := rfl
  rw [e]
  cases h : p % q with
  | zero => rfl
  | succ m => rfl
theorem rem_bne (p q : Nat) : ((p : Int) % (q : Int) != 0) = !(p % q == 0) := by
  rw [← Int.natCast_emod]
  cases p % q with
  | zero => rfl
  | succ m => rfl
theorem good_drop (p : Nat) (out : List Nat) (i q : Nat) (h : out[i]? = some q) : good p (out.drop i) = (!(p % q == 0) && good p (out.drop (i + 1))) := by
  have hi : i < out.length := by
    rcases Nat.lt_or_ge i out.length with h1 | h1
    · exact h1
    · rw [List.getElem?_eq_none h1] at h; cases h
  rw [List.drop_eq_getElem_cons hi, good_cons]
  rw [List.getElem?_eq_getElem hi] at h
  rw [Option.some.inj h]

set_option maxHeartbeats 2000000 in
theorem primes_c {w : World} (n m0 : Nat) (P : List Nat) (hP : primesGo m0 2 [] = P) (hl : P.length = n) (hm0 : m0 ≤ 400) (hn : n ≤ 400) :
    Calls Try.prog 51 #[.int .i64 (n : Int)] w fun e w' => ∃ A c, e = .returned (.slice A n c) ∧ O64 w' w.heap.size A n c P ∧ Below w.heap.size w w' := by
  have n0 : O64 w w.heap.size none 0 0 [] := Row.nil _ _ _ _ _
  have HPP := Lib.hid hP
  have HL := Lib.hid hl
  clear hP hl
  go_enter Try.func51, Try.ntmps51
  go_wp2_with fail
  go_loopw [3, 4] (fun v3 v4 wr => ∃ (m p L : Nat) (out : List Nat) (A : Option Addr) (c : Nat), p + m ≤ 402 ∧ 2 ≤ p ∧ v4 = .int .u64 (p : Int) ∧ v3 = .slice A L c ∧ primesGo m p out = P ∧ (∀ q ∈ out, q ≠ 0) ∧ O64 wr w.heap.size A L c out ∧ Below w.heap.size w wr) (fun _ v4 _ => 402 - (intOf v4).toNat)
  case atStart => exact ⟨m0, 2, 0, [], none, 0, by omega, by omega, rfl, rfl, HPP.out, by simp, n0, Below.refl _ _⟩
  case round =>
    clear n0
    obtain ⟨m, p, L, out, A, c, hpm, hp2, rfl, rfl, hP, h0, ho, hb⟩ := hrel
    have hz := hb.size
    have hlo : out.length = L := ho.s.len
    have hpre := primesGo_prefix m p out
    rw [hP] at hpre
    have hLn : L ≤ n := by rw [← hlo, ← HL.out]; exact hpre.length_le
    by_cases hlt : L < n
    · have hli : (L : Int) < (n : Int) := by omega
      cases m with
      | zero => exact absurd (show L = n by rw [← hlo, ← HL.out]; exact congrArg List.length hP) (by omega)
      | succ m =>
        have hP1 := hP
        rw [primesGo_succ] at hP1
        have HP1 := Lib.hid hP1
        have HLO := Lib.hid hlo
        have H0 := Lib.hid h0
        have HO := Lib.hid ho
        have HB := Lib.hid hb
        clear hP hP1 hpre
        go_wp2_with fail
        obtain ⟨wo, rfl⟩ : ∃ wo : World, wo = wr := ⟨_, rfl⟩
        go_loopw [5, 6] (fun v5 v6 wr => ∃ (i : Nat) (g : Bool), i ≤ L ∧ v6 = .int .i64 (i : Int) ∧ v5 = .bool g ∧ good p out = (g && good p (out.drop i)) ∧ wr = wo) (fun _ v6 _ => L - (intOf v6).toNat)
        case atStart => exact ⟨0, true, by omega, rfl, rfl, by simp, rfl⟩
        case round =>
          obtain ⟨i, g, hi, rfl, rfl, hg, rfl⟩ := hrel
          by_cases hil : i < L
          · have hii : (i : Int) < (L : Int) := by omega
            obtain ⟨ba, oa, rfl, _⟩ := ho.s.addr (by omega)
            obtain ⟨q, hq⟩ : ∃ q, out[i]? = some q := ⟨_, List.getElem?_eq_getElem (by omega)⟩
            have dq := ho.s.at i hil
            rw [hq] at dq
            have hq0 : q ≠ 0 := h0 q (List.mem_of_getElem? hq)
            have hqi : ¬ (q : Int) = 0 := by omega
            rw [good_drop p out i q hq] at hg
            have HG := Lib.hid hg
            clear hg h0 ho hb hq hlo
            cases g
            · go_wp2_with fail
              exact ⟨⟨i + 1, false, by omega, by go_num, rfl, by rw [HG.out]; rfl, trivial⟩, by simp [intOf]; omega⟩
            · go_wp2_with fail
              exact ⟨⟨i + 1, !(p % q == 0), by omega, by go_num, by rw [rem_bne], by rw [HG.out]; simp, trivial⟩, by simp [intOf]; omega⟩
          · obtain rfl : i = L := by omega
            have hii : ¬ (i : Int) < (i : Int) := by omega
            rw [List.drop_eq_nil_of_le (by omega)] at hg
            have hg2 : good p out = g := by rw [hg]; simp [good]
            have ha := Row.alloc ho (.cells #[.int .u64 (p : Int)] 76)
            have hs := S64.new ‹World› p
            clear hg
            cases g
            · have hps : prStep p out = out := by rw [prStep, hg2]; rfl
              have HPS := Lib.hid hps
              have HLO2 := Lib.hid hlo
              clear hg2 ho hb h0 hps ha hs hlo
              go_wp2_with fail
              exact ⟨⟨m, p + 1, i, out, A, c, by omega, by omega, by go_num, rfl, by rw [← HP1.out, HPS.out], H0.out, HO.out, HB.out⟩, by simp [intOf]; omega⟩
            · have hps : prStep p out = out ++ [p] := by rw [prStep, hg2]; rfl
              have HPS := Lib.hid hps
              have HLO2 := Lib.hid hlo
              clear hg2 ho hb h0 hps hlo
              go_wp2_with (at_builtin; refine wpList_append64 rfl (.tmp 30) (.tmp 32) rfl rfl ha rfl hs (by omega) (Nat.le_trans hz (by simp)) (i + 1) rfl ?_; intro A1 c1 w1 h1 q1)
              refine ⟨⟨m, p + 1, i + 1, out ++ [p], A1, c1, by omega, by omega, by go_num, rfl, by rw [← HP1.out, HPS.out], ?_, h1, q1.below ha (HB.out.alloc hz _) (Nat.le_refl _) (Nat.le_trans hz (by simp))⟩, by simp [intOf]; omega⟩
              intro q hq
              rcases List.mem_append.1 hq with h2 | h2
              · exact H0.out q h2
              · have := List.mem_singleton.1 h2; omega
    · obtain rfl : L = n := by omega
      have hli : ¬ (L : Int) < (L : Int) := by omega
      have hPo : out = P := hpre.eq_of_length (by rw [hlo, HL.out])
      clear hP hpre
      go_wp2_with fail
      go_ret
      exact ⟨A, c, rfl, hPo ▸ ho, hb⟩
end Go.Proofs.Ytbphoilfiahnpaa
