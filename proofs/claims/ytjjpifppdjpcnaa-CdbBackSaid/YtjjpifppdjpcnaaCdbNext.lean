/-
  The reader of cdb: the next number.
-/
import Derived.Test.YtjjpifppdjpcnaaCdbLaw
import Derived.Test.YtjjpifppdjpcnaaTake
namespace Go.Proofs.Ytjjpifppdjpcnaa
open Go.RowKit
set_option linter.unusedVariables false
set_option linter.unusedSimpArgs false
set_option maxRecDepth 100000

set_option maxHeartbeats 1000000 in
theorem next_ok {w : World} {gr : Nat} {B : Nat} {A : Option Addr} {n c : Nat} {bs : List UInt8} {bad : Bool} (br : Blk w gr 104 #[.slice A n c, .bool bad]) (hs : SlB w B A n c bs) (hB : B ≤ w.heap.size) (hn : n ≤ 140737488355328) {k : Nat} (hk : sz k) (hkn : k ≤ n) :
    Calls Try.prog 59 #[.pointer (some ⟨gr, 0, none⟩), .int .i64 k] w fun e w' => ∃ A' c', e = .returned (.int .i64 (i64v (bigN (bs.take k)))) ∧ Blk w' gr 104 #[.slice A' (n - k) c', .bool bad] ∧ OwB w' w.heap.size A' (n - k) c' (bs.drop k) ∧ w.grownBy w' (some gr) := by
  have k0 : w.cell? ⟨gr, 0, none⟩ = some (.slice A n c) := by rw [br.cell]; rfl
  have hgr := br.lt
  have HBR := Lib.hid br
  have HS := Lib.hid hs
  have HK := Lib.hid hk
  obtain ⟨x, hx⟩ : ∃ x, x = i64v (bigN (bs.take k)) := ⟨_, rfl⟩
  have HX := Lib.hid hx
  rw [← hx]
  clear br hs hk hx
  cases bad
  all_goals
    go_enter Try.func59, Try.ntmps59
    go_wp2_with (go_at_call 49; refine (take_ok HS.out hB hn HK.out hkn).mono ?_; rintro e w1 ⟨A1, c1, rfl, ho1, hb1⟩; rw [← HX.out]; have b1 := HBR.out.below hb1 hgr; have j0 : w1.cell? ⟨gr, 0, none⟩ = some (.slice A n c) := (by rw [b1.cell]; rfl); have f0 := b1.frozen 0; have f1 := b1.frozen 1; have j1 := b1.cell 1; simp only [List.getElem?_toArray, List.getElem?_cons_succ, List.getElem?_cons_zero] at j1)
    go_ret
    refine ⟨A1, c1, rfl, ?_, ?_, ?_⟩
    · simpa using (b1.set_ 1 _).set_ 0 (.slice A1 (n - k) c1)
    · exact own_set (own_set ho1 hgr 1 _) hgr 0 _
    · exact grownBy_trans (grownBy_trans (grownBy_of_below hb1) (grownBy_setCell _ gr 1 _)) (grownBy_setCell _ gr 0 _)
set_option maxHeartbeats 1000000 in
theorem next_bad {w : World} {gr : Nat} {A : Option Addr} {n c : Nat} {bad : Bool} (br : Blk w gr 104 #[.slice A n c, .bool bad]) {k : Nat} (hk : sz k) (hkn : n < k) :
    Calls Try.prog 59 #[.pointer (some ⟨gr, 0, none⟩), .int .i64 k] w fun e w' => e = .returned (.int .i64 0) ∧ Blk w' gr 104 #[.slice none 0 0, .bool true] ∧ w.grownBy w' (some gr) := by
  have k0 : w.cell? ⟨gr, 0, none⟩ = some (.slice A n c) := by rw [br.cell]; rfl
  have hgr := br.lt
  have f0 := br.frozen 0
  have f1 := br.frozen 1
  have j1 := br.cell 1
  simp only [List.getElem?_toArray, List.getElem?_cons_succ, List.getElem?_cons_zero] at j1
  have HBR := Lib.hid br
  have HK := Lib.hid hk
  have hki : (n : Int) < (k : Int) := by omega
  clear br hk
  cases bad
  all_goals
    go_enter Try.func59, Try.ntmps59
    go_wp2_with (go_at_call 49; refine (take_bad2 HK.out hki).mono ?_; rintro e w1 ⟨rfl, rfl⟩)
    go_ret
    refine ⟨rfl, ?_, ?_⟩
    · simpa using (HBR.out.set_ 1 (.bool true)).set_ 0 (.slice none 0 0)
    · exact grownBy_trans (grownBy_setCell _ gr 1 _) (grownBy_setCell _ gr 0 _)
end Go.Proofs.Ytjjpifppdjpcnaa
