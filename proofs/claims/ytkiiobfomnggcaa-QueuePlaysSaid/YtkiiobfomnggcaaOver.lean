/-
  The verifier's Over: bytes written over.
-/
import Derived.Test.YtkiiobfomnggcaaBase
namespace Go.Proofs.Ytkiiobfomnggcaa
open Go.RowKit
set_option linter.unusedVariables false
set_option maxRecDepth 100000

/-- Over: it writes to the slice's own cells alone. -/
theorem over_c {w : World} {base : Nat} {A : Option Addr} {n c : Nat} {bs : List UInt8} (ha : OwB w base A n c bs) (hn : n ≤ 140737488351232) :
    Calls Try.prog 11 #[.slice A n c] w fun e w' => e = .returned (.tuple #[]) ∧ w.grownBy w' (wrote A c) := by
  have hl := ha.len
  have hnc := ha.2.1
  rcases Nat.eq_zero_or_pos n with h0 | h0
  · subst h0
    clear ha
    go_enter Try.func11, Try.ntmps11
    go_wp2
    refine wp_loop_rounds 1 ?_
    rw [rounds_succ]
    go_wp2
    go_end0
    exact ⟨rfl, World.grownBy.refl _ _⟩
  · obtain ⟨g, cur, rfl, _, hb, hs, ht⟩ := ha.2.2.2 (by omega)
    have hin : ∃ cur, Blk w g 5 cur ∧ ∀ j, j < n → ∃ x : UInt8, cur[j]? = some (b8 x) := by
      refine ⟨cur, hb, fun j hj => ?_⟩
      have h1 : (cur.toList.take (n * 1))[j]? = cur[j]? := by rw [List.getElem?_take, if_pos (by omega)]; simp
      rw [ht] at h1
      rw [← h1]
      exact ⟨bs[j]'(by omega), by rw [List.getElem?_map, List.getElem?_eq_getElem (by omega)]; rfl⟩
    have hw : wrote (some ⟨g, 0, none⟩) c = some g := by rw [wrote, if_neg (by omega)]; rfl
    rw [hw]
    clear ha hl hb hs ht hw
    go_enter Try.func11, Try.ntmps11
    go_wp2_with fail
    go_loopw [5] (fun i wr => ∃ k : Nat, k ≤ n ∧ i = .int .i64 k ∧ (∃ cur, Blk wr g 5 cur ∧ ∀ j, j < n → ∃ x : UInt8, cur[j]? = some (b8 x)) ∧ w.grownBy wr (some g)) (fun i _ => n - (intOf i).toNat)
    case atStart => exact ⟨0, by omega, rfl, hin, World.grownBy.refl _ _⟩
    case round =>
      obtain ⟨k, hk, rfl, ⟨cur, hb, hx⟩, hg⟩ := hrel
      clear hin
      by_cases hlt : k < n
      · obtain ⟨x, hxk⟩ := hx k hlt
        have hc : wr.cell? ⟨g, k, none⟩ = some (.int .u8 (x.toNat : Int)) := by rw [hb.cell, hxk]; rfl
        have hf : wr.frozen? ⟨g, k, none⟩ = false := hb.frozen k
        have HB := Lib.hid hb
        have HX := Lib.hid hx
        have HG := Lib.hid hg
        clear hb hx hg hxk
        go_wp2_with fail
        go_roundw
        case rel =>
          have e : bits .xor .u8 (x.toNat : Int) 255 = ((x ^^^ 255).toNat : Int) := xor8 x 255
          rw [e]
          refine ⟨k + 1, by omega, by go_num, ⟨_, HB.out.set_ k _, fun j hj => ?_⟩, ?_⟩
          · rw [Array.getElem?_setIfInBounds]
            by_cases hjk : k = j
            · subst hjk
              refine ⟨x ^^^ 255, ?_⟩
              obtain ⟨y, hy⟩ := HX.out k hj
              have : k < cur.size := (Array.getElem?_eq_some_iff.1 hy).1
              simp [this, b8_def]
            · rw [if_neg hjk]; exact HX.out j hj
          · exact grownBy_trans HG.out (grownBy_setCell wr g k _)
        case measure => simp [intOf]; omega
      · go_wp2_with fail
        go_end0
        exact ⟨rfl, hg⟩
end Go.Proofs.Ytkiiobfomnggcaa
