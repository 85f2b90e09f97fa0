/-
  An append, and what else reads as the row behind it.
-/
import Derived.Test.YtkiiobfomnggcaaBase
namespace Go.Proofs.Ytkiiobfomnggcaa
open Go.RowKit
set_option linter.unusedVariables false
set_option linter.unusedSimpArgs false
set_option maxRecDepth 100000
section
variable {P : Program}
theorem run_append_rowK {w : World} {base : Nat} {t ty e : TypeId} {i : TypeInfo} {z : Value} {size bytes : Nat} (ht : P.underlying t = some (.slice e)) (hi : P.info? e = some i) (hz : i.zero = some z)
    (hsize : i.size = size) (hby : i.bytes = bytes) (hzs : z.cells.size = size)
    {A : Option Addr} {n c : Nat} {xs : List Value} (hown : Row w base e size A n c xs)
    {B : Nat} {A2 : Option Addr} {m c2 : Nat} {news : List Value} (hr : Sl w B size A2 m c2 news) (h1 : ∀ u ∈ news, u.oneCell' = true)
    (hbytes : (n + m) * bytes ≤ 140737488355328) (h63 : n + m ≤ maxLen) (hbase : base ≤ w.heap.size) :
    ∃ A' c' w', (Builtin.append_ #[t, t] ty #[.slice A n c, .slice A2 m c2]).run P w = .ok (.slice A' (n + m) c') w' ∧ Row w' base e size A' (n + m) c' (xs ++ news) ∧
      Went w w' A n c m A' c' ∧ ∀ A4 c4, Row w base e size A4 (n + m) c4 (xs ++ news) → Row w' base e size A4 (n + m) c4 (xs ++ news) := by
  obtain ⟨A', c', w', hr1, h2, h3⟩ := run_append_row (P := P) (ty := ty) ht hi hz hsize hby hzs hown hr h1 hbytes h63 hbase
  refine ⟨A', c', w', hr1, h2, h3, ?_⟩
  subst hsize
  by_cases hroom : n + m ≤ c
  · rcases Nat.eq_zero_or_pos c with hc0 | hc0
    · have hb : Below w.heap.size w w' := by
        have := h3.grown
        rw [wrote, if_pos hc0] at this
        exact (Below.refl _ _).grown this (Nat.le_refl _) (fun k hk => by cases hk)
      exact fun A4 c4 h => Row.below h hb
    · obtain ⟨g, cur, rfl, hg, hb, hs, htk⟩ := hown.2.2.2 hc0
      have hnews := run_firstCells_sl (P := P) hr w (fun _ => rfl)
      have hfit : n * i.size + news.length ≤ cur.size := by rw [hr.1, ← Nat.add_mul]; exact Nat.le_trans (Nat.mul_le_mul_right _ hroom) hs
      have hst := run_storeCells_at P g (n * i.size) e news 0 cur w hb (by simpa using hfit) h1
      simp only [Nat.add_zero] at hst
      have hrun : (Builtin.append_ #[t, t] ty #[.slice (some ⟨g, 0, none⟩) n c, .slice A2 m c2]).run P w = .ok (.slice (some ⟨g, 0, none⟩) (n + m) c) (w.setRow g (cur.toList.take (n * i.size) ++ news ++ cur.toList.drop (n * i.size + news.length)).toArray) := by
        simp [Builtin.append_, run_underlying ht, sizeOf, typeInfo, hi, Builtin.lenOf, hroom, hnews, Addr.add_lit, hst]
      rw [hr1] at hrun
      simp only [Result.ok.injEq, Value.slice.injEq] at hrun
      obtain ⟨_, hw⟩ := hrun
      obtain ⟨cur', hcur⟩ : ∃ x, x = (cur.toList.take (n * i.size) ++ news ++ cur.toList.drop (n * i.size + news.length)).toArray := ⟨_, rfl⟩
      rw [← hcur] at hw
      have hb' : Blk w' g e cur' := by rw [hw]; exact hb.setRow _
      have hsz : cur'.size = cur.size := by
        rw [hcur]
        simp only [List.size_toArray, List.length_append, List.length_take, List.length_drop, Array.length_toList]
        omega
      have ht2 : cur'.toList.take ((n + m) * i.size) = xs ++ news := by
        rw [hcur, htk, show (n + m) * i.size = (xs ++ news).length by rw [List.length_append, hown.1, hr.1, Nat.add_mul]]
        exact List.take_left
      intro A4 c4 h4
      refine ⟨h4.1, h4.2.1, h4.2.2.1, fun hc4 => ?_⟩
      obtain ⟨g4, cur4, rfl, hg4, hb4, hs4, ht4⟩ := h4.2.2.2 hc4
      by_cases e' : g4 = g
      · subst e'
        have e2 : cur4 = cur := by
          have a1 := hb4
          have a2 := hb
          rw [Blk] at a1 a2
          rw [a1] at a2
          simp only [Option.some.injEq, Obj.cells.injEq] at a2
          exact a2.1
        subst e2
        exact ⟨g4, cur', rfl, hg4, hb', by omega, ht2⟩
      · refine ⟨g4, cur4, rfl, hg4, ?_, hs4, ht4⟩
        rw [Blk, hw, setRow_other w g g4 _ e']
        exact hb4
  · have hb : Below w.heap.size w w' := (Below.refl _ _).grown (h3.moved (by omega)).2.2 (Nat.le_refl _) (fun k hk => by cases hk)
    exact fun A4 c4 h => Row.below h hb
theorem wpList_append_rowK {ops : Array Oper} {rest : List Oper} {o : Oper} {a : Act} {Q : Exit → Act → World → Prop} {w : World} (hgd : o.guard = none) (s x : Operand) (t : TypeId)
    (ho : o.op = .call { callee := .builtin .append, args := #[s, x], argTypes := #[t, t] })
    {base : Nat} {e : TypeId} {i : TypeInfo} {z : Value} {size bytes : Nat} (ht : P.underlying t = some (.slice e)) (hi : P.info? e = some i) (hz : i.zero = some z)
    (hsize : i.size = size) (hby : i.bytes = bytes) (hzs : z.cells.size = size)
    {A : Option Addr} {n c : Nat} {xs : List Value} (hs : a.eval s = .slice A n c) (hown : Row w base e size A n c xs)
    {B : Nat} {A2 : Option Addr} {m c2 : Nat} {news : List Value} (hx : a.eval x = .slice A2 m c2) (hr : Sl w B size A2 m c2 news) (h1 : ∀ u ∈ news, u.oneCell' = true)
    (hbytes : (n + m) * bytes ≤ 140737488355328) (h63 : n + m ≤ maxLen) (hbase : base ≤ w.heap.size)
    (h : ∀ A' c' w', Row w' base e size A' (n + m) c' (xs ++ news) → Went w w' A n c m A' c' → (∀ A4 c4, Row w base e size A4 (n + m) c4 (xs ++ news) → Row w' base e size A4 (n + m) c4 (xs ++ news)) → wpList P ops Q rest (a.put o.dst (.slice A' (n + m) c')) w') :
    wpList P ops Q (o :: rest) a w := by
  refine wpList_plain hgd fun K hK => ?_
  obtain ⟨A', c', w', hrun, h2, h3, h4⟩ := run_append_rowK (P := P) (ty := o.type) ht hi hz hsize hby hzs hown hr h1 hbytes h63 hbase
  unfold Oper.wp execOp
  simp only [ho, resolve, invoke, builtin, Sem.run_bind, Sem.run_pure, Result.andThen_ok, List.map_toArray, List.map_cons, List.map_nil, hs, hx, hrun]
  exact hK _ _ (h A' c' w' h2 h3 h4)
end
end Go.Proofs.Ytkiiobfomnggcaa
