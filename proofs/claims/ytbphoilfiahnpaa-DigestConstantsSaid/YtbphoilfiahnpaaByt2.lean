/-
  Byte slices, more.
-/
import Derived.Test.YtbphoilfiahnpaaByt
namespace Go.Proofs.Ytbphoilfiahnpaa
open Go.RowKit
set_option linter.unusedVariables false

/-- The same of an append that a guard lets through. -/
theorem wpList_append8W {ops : Array Oper} {rest : List Oper} {o : Oper} {a : Act} {Q : Exit → Act → World → Prop} {w : World} (hw : Region.wanted o (yielded ops a.tmps) = true) (s x : Operand)
    (ho : o.op = .call { callee := .builtin .append, args := #[s, x], argTypes := #[31, 31] })
    {base : Nat} {A : Option Addr} {n c : Nat} {xs : List UInt8} (hs : a.eval s = .slice A n c) (hown : OwB w base A n c xs)
    {B : Nat} {A2 : Option Addr} {m c2 : Nat} {news : List UInt8} (hx : a.eval x = .slice A2 m c2) (hr : SlB w B A2 m c2 news)
    (hbytes : n + m ≤ 140737488355328) (hbase : base ≤ w.heap.size) (k : Nat) (hk : n + m = k)
    (h : ∀ A' c' w', OwB w' base A' k c' (xs ++ news) → Went w w' A n c m A' c' → wpList Try.prog ops Q rest (a.put o.dst (.slice A' k c')) w') :
    wpList Try.prog ops Q (o :: rest) a w := by
  subst hk
  obtain ⟨i0, hi, hz0, hz1, hz2⟩ := info_parts bytes_info
  refine BigFrame.wpList_want hw fun K hK => ?_
  obtain ⟨A', c', w', hrun, h2, h3⟩ := run_append_row (P := Try.prog) (ty := o.type) Try.underlying31 hi hz0 hz1 hz2 rfl hown hr (b8_one _) (by omega) (by simp only [maxLen]; omega) hbase
  unfold Oper.wp execOp
  simp only [ho, resolve, invoke, builtin, Sem.run_bind, Sem.run_pure, Result.andThen_ok, List.map_toArray, List.map_cons, List.map_nil, hs, hx, hrun]
  refine hK _ _ (h A' c' w' ?_ h3)
  rw [OwB, List.map_append]
  exact h2

/-- A cut 's[lo:hi]', its address under one name. -/
theorem SlB.cutRun {w : World} {B : Nat} {A : Option Addr} {n c : Nat} {bs : List UInt8} (h : SlB w B A n c bs) {lo hi : Nat} (hl : lo ≤ hi) (hh : hi ≤ n) (L H : Int) (hL : L = lo) (hH : H = hi) :
    ∃ A2, SlB w B A2 (hi - lo) (c - lo) ((bs.drop lo).take (hi - lo)) ∧ ∀ W, (Instr.sliceAt 31 (.slice A n c) (some (.int .i64 L)) (some (.int .i64 H)) none).run Try.prog W = .ok (.slice A2 (hi - lo) (c - lo)) W := by
  subst hL hH
  refine ⟨_, h.cut hl hh, fun W => ?_⟩
  have hc := h.le
  have he : Try.prog.underlying 31 = some (.slice (Try.prog.elem 31)) := by rw [bytes_elem]; exact Try.underlying31
  have hs : (sizeOf (Try.prog.elem 31)).run Try.prog W = .ok 1 W := by rw [bytes_elem]; kernel_rfl
  rw [run_sliceAt_slice W _ _ _ _ _ he, run_slice_lh W _ A n c he .i64 .i64 lo hi (by omega) (by omega) (by omega), hs]
  simp [Result.andThen, sliced]
end Go.Proofs.Ytbphoilfiahnpaa
