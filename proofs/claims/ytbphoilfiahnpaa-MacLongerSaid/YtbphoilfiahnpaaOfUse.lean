/-
  digest.Of as the statements call it: of nothing, of one part; two digests compared.
-/
import Derived.Test.YtbphoilfiahnpaaOf
import Derived.Test.YtbphoilfiahnpaaLater
import Derived.Test.YtbphoilfiahnpaaArr2
namespace Go.Proofs.Ytbphoilfiahnpaa
open Go.RowKit
set_option linter.unusedVariables false
set_option maxRecDepth 100000

theorem sha_nil0 : (sha [])[0]? = some 227 := by decide +kernel
theorem sha_nil31 : (sha [])[31]? = some 85 := by decide +kernel
theorem guard44 : Try.prog.eqGuardType Try.prog.depth 44 = false := by kernel_rfl
theorem eq44 (xs ys : List UInt8) (hx : xs.length = 32) (hy : ys.length = 32) (r : Bool) (hr : (xs == ys) = r) (w : World) : (Op.equalIn 10000 44 (.agg (arr8 xs)) (.agg (arr8 ys))).run Try.prog w = .ok r w := by
  rw [run_equalIn_arr8 w _ _ 32 Try.underlying44 Try.underlying5 size1 xs ys hx hy, hr]
theorem index44 (xs : List UInt8) (i : Nat) (hi : i < 32) (x : UInt8) (hx : xs[i]? = some x) (w : World) : (Instr.index 44 (.agg (arr8 xs)) (.int .i64 (i : Int))).run Try.prog w = .ok (.int .u8 (x.toNat : Int)) w :=
  arr_index_run Try.underlying44 Try.underlying5 size1 (arr8 xs) i hi _ (by rw [arr8_get, hx]; rfl) w

theorem nil0 (w : World) : (Instr.index 44 (.agg (arr8 (sha []))) (.int .i64 0)).run Try.prog w = .ok (.int .u8 227) w := index44 (sha []) 0 (by omega) 227 sha_nil0 w
theorem nil31 (w : World) : (Instr.index 44 (.agg (arr8 (sha []))) (.int .i64 31)).run Try.prog w = .ok (.int .u8 85) w := index44 (sha []) 31 (by omega) 85 sha_nil31 w

theorem of_nil (w : World) : Calls Try.prog 33 #[.slice none 0 0] w fun e w' => e = .returned (.agg (arr8 (sha []))) ∧ Below w.heap.size w w' :=
  of_c (B := w.heap.size) [] ⟨rfl, Nat.le_refl _, by simp [maxLen], fun h => absurd h (by omega)⟩ (Nat.le_refl _) (fun p hp => by simp at hp) (by simp [total])

/-- One part, its slice of slices just laid. -/
theorem of_one {w : World} {B : Nat} {A : Option Addr} {n c : Nat} {bs : List UInt8} (ha : SlB w B A n c bs) (hB : B ≤ w.heap.size) (hn : n ≤ 1099511627776) :
    Calls Try.prog 33 #[.slice (some ⟨w.heap.size, 0, none⟩) 1 1] (w.alloc (.cells #[.slice A n c] 31)) fun e w' => e = .returned (.agg (arr8 (sha bs))) ∧ Below w.heap.size w w' := by
  have hb : Below w.heap.size w (w.alloc (.cells #[.slice A n c] 31)) := (Below.refl _ _).alloc (Nat.le_refl _) _
  have h := of_c (w := w.alloc (.cells #[.slice A n c] 31)) (B := w.heap.size + 1) (A := some ⟨w.heap.size, 0, none⟩) (n := 1) (c := 1) [⟨A, n, c, bs⟩]
    ⟨rfl, Nat.le_refl _, by simp [maxLen], fun _ => ⟨w.heap.size, 0, rfl, by simp, fun j u hu => by
      rw [(Blk.new w 31 #[.slice A n c]).cell, Nat.zero_add]
      simpa [Part.v] using hu⟩⟩ (by simp) (fun p hp => by
      simp only [List.mem_cons, List.not_mem_nil, or_false] at hp
      subst hp
      exact SlB.more (ha.alloc hB _) (by omega)) (by simp [total]; omega)
  refine h.mono ?_
  rintro e w' ⟨rfl, hb'⟩
  exact ⟨by simp [joined], hb.trans (hb'.mono hb.size)⟩
end Go.Proofs.Ytbphoilfiahnpaa
