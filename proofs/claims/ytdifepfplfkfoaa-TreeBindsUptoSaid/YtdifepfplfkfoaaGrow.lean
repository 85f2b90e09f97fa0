/-
  append where there is no room: whatever the elder slice lies in, the new one begins a block of its own.
-/
import Derived.Test.YtdifepfplfkfoaaBase
namespace Go.Proofs.Ytdifepfplfkfoaa
open Go.RowKit
set_option linter.unusedVariables false
section
variable {P : Program}
theorem run_append_grow {w : World} {t ty e : TypeId} {i : TypeInfo} {z : Value} {size bytes : Nat} (ht : P.underlying t = some (.slice e)) (hi : P.info? e = some i) (hz : i.zero = some z)
    (hsize : i.size = size) (hby : i.bytes = bytes) (hzs : z.cells.size = size)
    {B1 : Nat} {A : Option Addr} {n c : Nat} {xs : List Value} (hown : Sl w B1 size A n c xs)
    {B : Nat} {A2 : Option Addr} {m c2 : Nat} {news : List Value} (hr : Sl w B size A2 m c2 news)
    (hbytes : (n + m) * bytes ≤ 140737488355328) (h63 : n + m ≤ maxLen) (hroom : ¬ n + m ≤ c) :
    ∃ c' w', (Builtin.append_ #[t, t] ty #[.slice A n c, .slice A2 m c2]).run P w = .ok (.slice (some ⟨w.heap.size, 0, none⟩) (n + m) c') w' ∧ Row w' w.heap.size e size (some ⟨w.heap.size, 0, none⟩) (n + m) c' (xs ++ news) ∧
      n + m ≤ c' ∧ w.grownBy w' none := by
  subst hsize
  subst hby
  have hlen : (xs ++ news).length = (n + m) * i.size := by rw [List.length_append, hown.1, hr.1, Nat.add_mul]
  have hnews := run_firstCells_sl (P := P) hr w (fun _ => rfl)
  have h63' : ¬ (9223372036854775807 < ((n : Int) + (m : Int))) := by simp only [maxLen] at h63; omega
  have h48' : ¬ (281474976710656 < Builtin.nextslicecap (n + m) c * i.bytes) := by have := growslice_fits (old := c) (by omega) hbytes; omega
  have hge := grownCap_ge w (n + m) c e
  have hcm : grownCap w (n + m) c e ≤ maxLen := grownCap_le_maxLen w (n + m) c e h63
  have hnews1 := run_firstCells_sl (P := P) hr w.drew (fun _ => by simp)
  have hold : (Builtin.firstCells i.size n (.slice A n c)).run P w.drew = .ok xs.toArray w.drew := run_firstCells_sl (P := P) hown w.drew (fun _ => by simp)
  refine ⟨grownCap w (n + m) c e, w.drew.alloc (.cells (xs.toArray ++ news.toArray ++ Builtin.zeroCells z.cells (grownCap w (n + m) c e - (n + m))) e), ?_, ?_, hge, ?_⟩
  · simp [Builtin.append_, run_underlying ht, sizeOf, typeInfo, zeroValue, hi, hz, Builtin.lenOf, hroom, h63', h48', Question.forced, hnews1, hold, newRow, grownCap]
    rw [← List.append_toArray, Array.append_assoc]
  · refine ⟨hlen, hge, hcm, fun _ => ⟨w.heap.size, _, rfl, Nat.le_refl _, Blk.new w.drew _ _, ?_, ?_⟩⟩
    · simp only [Array.size_append, List.size_toArray, size_zeroCells, hzs, hown.1, hr.1, ← Nat.add_mul]
      refine Nat.mul_le_mul_right _ ?_
      omega
    · simp only [Array.toList_append, List.append_assoc]
      rw [← List.append_assoc, ← hlen]
      exact List.take_left
  · exact ⟨rfl, rfl, rfl, by simp, fun k hk _ => Below.heap_alloc w.drew _ k hk⟩

theorem wpList_append_grow {ops : Array Oper} {rest : List Oper} {o : Oper} {a : Act} {Q : Exit → Act → World → Prop} {w : World} (hw : Region.wanted o (yielded ops a.tmps) = true) (s x : Operand) (t : TypeId)
    (ho : o.op = .call { callee := .builtin .append, args := #[s, x], argTypes := #[t, t] })
    {e : TypeId} {i : TypeInfo} {z : Value} {size bytes : Nat} (ht : P.underlying t = some (.slice e)) (hi : P.info? e = some i) (hz : i.zero = some z)
    (hsize : i.size = size) (hby : i.bytes = bytes) (hzs : z.cells.size = size)
    {B1 : Nat} {A : Option Addr} {n c : Nat} {xs : List Value} (hs : a.eval s = .slice A n c) (hown : Sl w B1 size A n c xs)
    {B : Nat} {A2 : Option Addr} {m c2 : Nat} {news : List Value} (hx : a.eval x = .slice A2 m c2) (hr : Sl w B size A2 m c2 news)
    (hbytes : (n + m) * bytes ≤ 140737488355328) (h63 : n + m ≤ maxLen) (hroom : ¬ n + m ≤ c)
    (h : ∀ c' w', Row w' w.heap.size e size (some ⟨w.heap.size, 0, none⟩) (n + m) c' (xs ++ news) → n + m ≤ c' → w.grownBy w' none → wpList P ops Q rest (a.put o.dst (.slice (some ⟨w.heap.size, 0, none⟩) (n + m) c')) w') :
    wpList P ops Q (o :: rest) a w := by
  refine BigFrame.wpList_want hw fun K hK => ?_
  obtain ⟨c', w', hrun, h2, h3, h4⟩ := run_append_grow (P := P) (ty := o.type) ht hi hz hsize hby hzs hown hr hbytes h63 hroom
  unfold Oper.wp execOp
  simp only [ho, resolve, invoke, builtin, Sem.run_bind, Sem.run_pure, Result.andThen_ok, List.map_toArray, List.map_cons, List.map_nil, hs, hx, hrun]
  exact hK _ _ (h _ _ h2 h3 h4)
end
theorem wpList_append8G {ops : Array Oper} {rest : List Oper} {o : Oper} {a : Act} {Q : Exit → Act → World → Prop} {w : World} (hw : Region.wanted o (yielded ops a.tmps) = true) (s x : Operand)
    (ho : o.op = .call { callee := .builtin .append, args := #[s, x], argTypes := #[22, 22] })
    {B1 : Nat} {A : Option Addr} {n c : Nat} {xs : List UInt8} (hs : a.eval s = .slice A n c) (hown : SlB w B1 A n c xs)
    {B : Nat} {A2 : Option Addr} {m c2 : Nat} {news : List UInt8} (hx : a.eval x = .slice A2 m c2) (hr : SlB w B A2 m c2 news)
    (hbytes : n + m ≤ 140737488355328) (hroom : c < n + m) (k : Nat) (hk : n + m = k)
    (h : ∀ c' w', OwB w' w.heap.size (some ⟨w.heap.size, 0, none⟩) k c' (xs ++ news) → Below w.heap.size w w' → wpList Try.prog ops Q rest (a.put o.dst (.slice (some ⟨w.heap.size, 0, none⟩) k c')) w') :
    wpList Try.prog ops Q (o :: rest) a w := by
  subst hk
  obtain ⟨i0, hi, hz0, hz1, hz2⟩ := info_parts bytes_info
  refine wpList_append_grow hw s x _ ho Try.underlying22 hi hz0 hz1 hz2 rfl hs hown hx hr (by omega) (by simp only [maxLen]; omega) (by omega) fun c' w' h1 h2 h3 => h c' w' ?_ ⟨h3.os, h3.tape, h3.output, h3.size, fun k hk => h3.block k hk (by simp)⟩
  rw [OwB, List.map_append]
  exact h1
end Go.Proofs.Ytdifepfplfkfoaa
