/-
  The document's queue: a list of commands that wait (printed by wip/gen_qr.py).
-/
import Derived.Test.YtkiiobfomnggcaaQX
import Derived.Test.YtkiiobfomnggcaaAppK
import Derived.Test.YtkiiobfomnggcaaRelS
namespace Go.Proofs.Ytkiiobfomnggcaa
open Go.RowKit Go.Shelf
set_option linter.unusedVariables false
set_option linter.unusedSimpArgs false
set_option maxRecDepth 100000

theorem fold_set (l : List Value) : ∀ (k : Nat) (init : Array Value) (j : Nat), ((l.zipIdx k).foldl (fun (cs : Array Value) (x : Value × Nat) => cs.setIfInBounds (0 + x.2) x.1) init)[j]? = if k ≤ j ∧ j < k + l.length ∧ j < init.size then l[j - k]? else init[j]? := by
  induction l with
  | nil =>
    intro k init j
    rw [if_neg (by simp; omega)]
    rfl
  | cons x l ih =>
    intro k init j
    rw [List.zipIdx_cons, List.foldl_cons, ih, Nat.zero_add, Array.size_setIfInBounds, List.length_cons]
    by_cases h1 : k + 1 ≤ j ∧ j < k + 1 + l.length ∧ j < init.size
    · rw [if_pos h1, if_pos (by omega), show j - k = (j - (k + 1)) + 1 by omega, List.getElem?_cons_succ]
    · rw [if_neg h1, Array.getElem?_setIfInBounds]
      by_cases h2 : k = j
      · subst h2
        by_cases h3 : k < init.size
        · rw [if_pos rfl, if_pos h3, if_pos (by omega)]; simp
        · rw [if_pos rfl, if_neg h3, if_neg (by omega), Array.getElem?_eq_none (by omega)]
      · rw [if_neg h2, if_neg (by omega)]
theorem fold_set_all (vs init : Array Value) (h : init.size = vs.size) : vs.zipIdx.foldl (fun (cs : Array Value) (x : Value × Nat) => cs.setIfInBounds (0 + x.2) x.1) init = vs := by
  rw [← Array.foldl_toList, Array.toList_zipIdx]
  apply Array.ext_getElem?
  intro j
  rw [fold_set]
  by_cases hj : j < vs.size
  · rw [if_pos (by simp; omega)]; simp
  · rw [if_neg (by simp; omega), Array.getElem?_eq_none (by omega), Array.getElem?_eq_none (by omega)]

theorem run_buildSlice_one {P : Program} {t e : TypeId} (ht : P.underlying t = some (.slice e)) {n : Nat} {z : Value} (hn : (P.info? e).map (·.size) = some n) (hz : (P.info? e).bind (·.zero) = some z) (hzs : z.cells.size = n) (h0 : 0 < n) (hs : n ≤ 1000000) (cs : Array Value) (hcs : cs.size = n) (w : World) :
    (Instr.buildSlice t 1 #[(0, .agg cs)]).run P w = .ok (.slice (some ⟨w.heap.size, 0, none⟩) 1 1) (w.alloc (.cells cs e)) := by
  cases hi : P.info? e with
  | none => rw [hi] at hn; cases hn
  | some i =>
    rw [hi] at hn hz
    simp only [Option.map_some, Option.some.injEq, Option.bind_some] at hn hz
    have hbig : ¬ (16777216 < n) := by omega
    have hnz : ¬ n = 0 := by omega
    have hc : (Value.agg cs).cells = cs := rfl
    have hf := fold_set_all cs ((Array.range (1 * n)).map (z.cells[· % z.cells.size]!)) (by simp [hcs])
    simp only [Nat.one_mul] at hf
    simp [Instr.buildSlice, run_underlying ht, sizeOf, typeInfo, zeroValue, hi, hn, hz, hbig, hnz, Instr.fill, hc, hcs, newRow]
    have hs2 : cs.zipIdx.size = n := by simp [hcs]
    simp only [Nat.zero_add, hs2] at hf
    rw [hf]

/-- A slice literal of one array or struct. -/
theorem wpList_one_row {P : Program} {ops : Array Oper} {rest : List Oper} {o : Oper} {a : Act} {Q : Exit → Act → World → Prop} {w : World} (hw : Region.wanted o (yielded ops a.tmps) = true) (t : TypeId) (x : Operand) (ho : o.op = .buildSlice t 1 #[(0, x)])
    {e : TypeId} (ht : P.underlying t = some (.slice e)) {n : Nat} {z : Value} (hn : (P.info? e).map (·.size) = some n) (hz : (P.info? e).bind (·.zero) = some z) (hzs : z.cells.size = n) (h0 : 0 < n) (hs : n ≤ 1000000) (cs : Array Value) (hx : a.eval x = .agg cs) (hcs : cs.size = n)
    (h : wpList P ops Q rest (a.put o.dst (.slice (some ⟨w.heap.size, 0, none⟩) 1 1)) (w.alloc (.cells cs e))) : wpList P ops Q (o :: rest) a w := by
  refine BigFrame.wpList_want hw fun _ hK => ?_
  unfold Oper.wp execOp
  simp only [ho, List.map_toArray, List.map_cons, List.map_nil, hx, Sem.run_bind, run_buildSlice_one ht hn hz hzs h0 hs cs hcs, Result.andThen_ok, Sem.run_pure]
  exact hK _ _ h


theorem Blk.ne_ty {w : World} {g g' : Nat} {t t' : TypeId} {cs cs' : Array Value} (h : Blk w g t cs) (h' : Blk w g' t' cs') (ht : t ≠ t') : g ≠ g' := fun e => by
  subst e
  rw [Blk] at h h'
  rw [h] at h'
  simp only [Option.some.injEq, Obj.cells.injEq] at h'
  exact ht h'.2.1
theorem wrote_ne {w : World} {base size : Nat} {e : TypeId} {A : Option Addr} {n c : Nat} {xs : List Value} (h : Row w base e size A n c xs) {g : Nat} {t : TypeId} {cs : Array Value} (hb : Blk w g t cs) (ht : t ≠ e) : g ∉ (wrote A c).toList := fun hm => by
  rw [Option.mem_toList] at hm
  rcases Row.wrote_lt h with h1 | ⟨g', cur, h1, _, _, h2⟩
  · rw [h1] at hm; cases hm
  · rw [h1] at hm
    cases hm
    exact hb.ne_ty h2 ht rfl

theorem Fr.ofWent {w w' : World} {A A' : Option Addr} {n c m c' : Nat} (h : Went w w' A n c m A' c') : Fr (wrote A c).toList w w' :=
  ⟨h.grown.size, fun k hk hn => h.grown.block k hk (fun e => hn (by rw [← e]; simp))⟩
theorem Fr.of1 {w w' : World} {g : Nat} (h : w.grownBy w' (some g)) : Fr [g] w w' := (Fr.below (Below.refl _ _)).grown h (.inl (by simp))
theorem Fr.wl {w w' : World} {A : Option Addr} {c : Nat} (h : w.grownBy w' (wrote A c)) : Fr (wrote A c).toList w w' :=
  ⟨h.size, fun k hk hn => h.block k hk (fun e => hn (by rw [← e]; simp))⟩

/-! ## Rows of what waits -/
theorem aggR : AggT Try.prog 68 13 := ⟨⟨_, Try.underlying68, rfl⟩, by kernel_rfl⟩
theorem zeroR : (Try.prog.info? 68).bind (·.zero) = some (.agg #[.int .i64 0, .int .i64 0, .int .i64 0, .int .i64 0, .int .i64 0, .int .i64 0, .slice none 0 0, .int .i64 0, .int .i64 0, .int .i64 0, .int .i64 0, .int .i64 0, .bool false]) := by kernel_rfl
theorem infoR : (Try.prog.info? 68).map (fun i => (i.size, i.bytes)) = some (13, 120) := by kernel_rfl
theorem sizeR0 : (Try.prog.info? 68).map (·.size) = some 13 := by kernel_rfl
theorem buildRZ (w : World) : (Instr.build 68 #[]).run Try.prog w = .ok (.agg #[.int .i64 0, .int .i64 0, .int .i64 0, .int .i64 0, .int .i64 0, .int .i64 0, .slice none 0 0, .int .i64 0, .int .i64 0, .int .i64 0, .int .i64 0, .int .i64 0, .bool false]) w := by kernel_rfl
theorem wpList_appendR {ops : Array Oper} {rest : List Oper} {o : Oper} {a : Act} {Q : Exit → Act → World → Prop} {w : World} (hgd : o.guard = none) (s x : Operand)
    (ho : o.op = .call { callee := .builtin .append, args := #[s, x], argTypes := #[61, 61] })
    {base : Nat} {A : Option Addr} {n c : Nat} {xs : List Value} (hs : a.eval s = .slice A n c) (hown : Row w base 68 13 A n c xs)
    {B : Nat} {A2 : Option Addr} {m c2 : Nat} {news : List Value} (hx : a.eval x = .slice A2 m c2) (hr : Sl w B 13 A2 m c2 news) (h1 : ∀ u ∈ news, u.oneCell' = true) (hn : n + m ≤ 1000) (hbase : base ≤ w.heap.size) (k : Nat) (hk : n + m = k)
    (h : ∀ A' c' w', Row w' base 68 13 A' k c' (xs ++ news) → Went w w' A n c m A' c' → (∀ A4 c4, Row w base 68 13 A4 k c4 (xs ++ news) → Row w' base 68 13 A4 k c4 (xs ++ news)) → wpList Try.prog ops Q rest (a.put o.dst (.slice A' k c')) w') :
    wpList Try.prog ops Q (o :: rest) a w := by
  subst hk
  obtain ⟨i0, hi, hz⟩ : ∃ i, Try.prog.info? 68 = some i ∧ (i.size, i.bytes) = (13, 120) := by
    have h := infoR
    cases hh : Try.prog.info? 68 with
    | none => rw [hh] at h; cases h
    | some i => rw [hh] at h; exact ⟨i, rfl, by simpa using h⟩
  have hz0 := zeroR
  rw [hi] at hz0
  simp only [Prod.mk.injEq] at hz
  exact wpList_append_rowK hgd s x _ ho Try.underlying61 hi hz0 hz.1 hz.2 rfl hs hown hx hr h1 (by omega) (by simp only [maxLen]; omega) hbase h
theorem rows13.ones {rows : List (List Value)} (h : rows13 rows) : ∀ v ∈ rows.flatten, v.oneCell' = true := fun v hv => by
  obtain ⟨r, hr, hv⟩ := List.mem_flatten.1 hv
  exact (h r hr).2 v hv
theorem rows13.mono {rows rows' : List (List Value)} (h : rows13 rows) (hs : ∀ r ∈ rows', r ∈ rows) : rows13 rows' := fun r hr => h r (hs r hr)
theorem Row.cellR {w : World} {base : Nat} {A : Option Addr} {N c : Nat} {rows : List (List Value)} (h : Row w base 68 13 A N c rows.flatten) (h13 : rows13 rows) {j : Nat} {r : List Value} (hj : rows[j]? = some r) :
    ∃ gl, A = some ⟨gl, 0, none⟩ ∧ gl < w.heap.size ∧ base ≤ gl ∧ j < N ∧ N ≤ c ∧ ∀ t v, r[t]? = some v → w.cell? ⟨gl, j * 13 + t, none⟩ = some v := by
  have hl := h.1
  rw [h13.len] at hl
  have hjl : j < rows.length := (List.getElem?_eq_some_iff.1 hj).1
  have hnc := h.2.1
  obtain ⟨g, cur, e, hg, hb, hs, ht⟩ := h.2.2.2 (by omega)
  refine ⟨g, e, hb.lt, hg, by omega, hnc, fun t v hv => ?_⟩
  have h1 := h13.get hj hv
  rw [hb.cell, Nat.mul_comm j 13]
  have h2 : (cur.toList.take (N * 13))[13 * j + t]? = some v := by rw [ht]; simpa using h1
  rw [List.getElem?_take] at h2
  split at h2
  · simpa using h2
  · cases h2
theorem sizeR (W : World) : (sizeOf (Try.prog.elem 61)).run Try.prog W = .ok 13 W := by kernel_rfl
theorem elemR : Try.prog.elem 61 = 68 := by kernel_rfl
theorem Sl.tailR {w : World} {B : Nat} {A : Option Addr} {n c : Nat} {xs : List Value} (h : Sl w B 13 A n c xs) (hn : 1 ≤ n) :
    ∃ A2, Sl w B 13 A2 (n - 1) (c - 1) (xs.drop 13) ∧ ∀ W, (Instr.sliceAt 61 (.slice A n c) (some (.int .i64 1)) none none).run Try.prog W = .ok (.slice A2 (n - 1) (c - 1)) W := by
  have h1 := Sl.cut h (lo := 1) (hi := n) hn (Nat.le_refl _)
  rw [List.take_of_length_le (by rw [List.length_drop, h.1]; omega)] at h1
  refine ⟨_, h1, fun W => ?_⟩
  have h3 := h.2.1
  have h4 := h.2.2.1
  have he : Try.prog.underlying 61 = some (.slice (Try.prog.elem 61)) := by rw [elemR]; exact Try.underlying61
  rw [run_sliceAt_slice W _ _ _ _ _ he]
  have := run_slice_l W _ A n c he .i64 1 (by omega) (by omega)
  rw [this, sizeR]
  simp [Result.andThen, sliced]
/-! ## What stays -/
/-- All blocks but those of the document's queue stay. -/
def TyR (w w' : World) : Prop := (w.heap.size ≤ w'.heap.size ∧ ∀ (g : Nat) (l : Option (List Deferred)), w.heap[g]? = some (Obj.deferred l) → w'.heap[g]? = some (Obj.deferred l)) ∧ ∀ g t cs, Blk w g t cs → t ≠ 68 → t ≠ 63 → Blk w' g t cs
theorem TyR.trans {w w' w2 : World} (h : TyR w w') (h' : TyR w' w2) : TyR w w2 := ⟨⟨Nat.le_trans h.1.1 h'.1.1, fun g l e => h'.1.2 g l (h.1.2 g l e)⟩, fun g t cs hb h1 h2 => h'.2 g t cs (h.2 g t cs hb h1 h2) h1 h2⟩
theorem TyR.below {w w' : World} (h : Below w.heap.size w w') : TyR w w' := ⟨⟨h.size, fun g l e => (h.block g (Array.getElem?_eq_some_iff.1 e).1).trans e⟩, fun g t cs hb _ _ => hb.below h hb.lt⟩
theorem TyR.keep {w w' : World} {gm : Nat} {bc : Array Value} {L : List Nat} (h1 : Blk w gm 63 bc) (hL : ∀ g ∈ L, ∃ cur, Blk w g 68 cur) (hs : w.heap.size ≤ w'.heap.size) (hk : ∀ g, g < w.heap.size → g ≠ gm → g ∉ L → w'.heap[g]? = w.heap[g]?) : TyR w w' := by
  refine ⟨⟨hs, fun g l e => ?_⟩, fun g t cs hb e1 e2 => ?_⟩
  · refine (hk g (Array.getElem?_eq_some_iff.1 e).1 (fun e3 => ?_) (fun hm => ?_)).trans e
    · subst e3; rw [Blk, e] at h1; cases h1
    · obtain ⟨cur, hc⟩ := hL g hm
      rw [Blk, e] at hc; cases hc
  · refine (hk g hb.lt (hb.ne_ty h1 e2) (fun hm => ?_)).trans hb
    obtain ⟨cur, hc⟩ := hL g hm
    exact hb.ne_ty hc e1 rfl
theorem Row.tyR {w w' : World} {base size : Nat} {A : Option Addr} {n c : Nat} {xs : List Value} {e : TypeId} (h : Row w base e size A n c xs) (hy : TyR w w') (h1 : e ≠ 68) (h2 : e ≠ 63) : Row w' base e size A n c xs := by
  refine ⟨h.1, h.2.1, h.2.2.1, fun hc => ?_⟩
  obtain ⟨g', cur, e1, hg', hb, hs, ht⟩ := h.2.2.2 hc
  exact ⟨g', cur, e1, hg', hy.2 _ _ _ hb h1 h2, hs, ht⟩
theorem Row.tyQ {w w' : World} {base size : Nat} {A : Option Addr} {n c : Nat} {xs : List Value} {e : TypeId} (h : Row w base e size A n c xs) (hy : Ty w w') (h1 : e ≠ 83) (h2 : e ≠ 48) : Row w' base e size A n c xs := by
  refine ⟨h.1, h.2.1, h.2.2.1, fun hc => ?_⟩
  obtain ⟨g', cur, e1, hg', hb, hs, ht⟩ := h.2.2.2 hc
  exact ⟨g', cur, e1, hg', hy.2 _ _ _ hb h1 h2, hs, ht⟩
/-- The document's queue at gm: its bound, its list. -/
def Rq (w : World) (base gm n : Nat) (rows : List (List Value)) : Prop := ∃ A c, Blk w gm 63 #[.int .i64 (n : Int), .slice A rows.length c] ∧ Row w base 68 13 A rows.length c rows.flatten ∧ base ≤ gm ∧ rows13 rows ∧ rows.length ≤ n ∧ n ≤ 8
section
variable {w w' : World} {base gm n : Nat} {rows : List (List Value)}
theorem Rq.below (h : Rq w base gm n rows) (hb : Below w.heap.size w w') : Rq w' base gm n rows :=
  let ⟨A, c, h1, h2, h3⟩ := h
  ⟨A, c, h1.below hb h1.lt, Row.below h2 hb, h3⟩
theorem Rq.ty (h : Rq w base gm n rows) (hb : Ty w w') : Rq w' base gm n rows :=
  let ⟨A, c, h1, h2, h3⟩ := h
  ⟨A, c, hb.2 _ _ _ h1 (by decide) (by decide), Row.tyQ h2 hb (by decide) (by decide), h3⟩
theorem Rq.gone {g : Nat} {t : TypeId} {cs : Array Value} (h : Rq w base gm n rows) (hk : Blk w g t cs) (h1 : t ≠ 68) (h2 : t ≠ 63) (hg : w.grownBy w' (some g)) : Rq w' base gm n rows := by
  obtain ⟨A, c, h3, h4, h5⟩ := h
  refine ⟨A, c, h3.grown hg (by simpa using h3.ne_ty hk (Ne.symm h2)), ⟨h4.1, h4.2.1, h4.2.2.1, fun hc => ?_⟩, h5⟩
  obtain ⟨g', cur, e1, hg', hb, hs, ht⟩ := h4.2.2.2 hc
  exact ⟨g', cur, e1, hg', hb.grown hg (by simpa using hb.ne_ty hk (Ne.symm h1)), hs, ht⟩
theorem Rq.cell1 (h : Rq w base gm n rows) : ∃ A c, w.cell? ⟨gm, 1, none⟩ = some (.slice A rows.length c) ∧ rows.length ≤ c ∧ c ≤ maxLen := by
  obtain ⟨A, c, h1, h2, _⟩ := h
  exact ⟨A, c, by rw [h1.cell]; rfl, h2.2.1, h2.2.2.1⟩
end
/-! ## Put -/
set_option maxHeartbeats 4000000 in
theorem rput_no {w : World} {base gm n : Nat} {rows : List (List Value)} (h : Rq w base gm n rows) (hx : rows.length = n) (r : List Value) :
    Calls Try.prog 23 #[.pointer (some ⟨gm, 0, none⟩), .agg r.toArray] w fun e w' => e = .returned (.bool false) ∧ Below w.heap.size w w' := by
  obtain ⟨A, c, h1, h2, h3, h4, h5, h6⟩ := h
  have hnc := h2.2.1
  have hcm : c ≤ 9223372036854775807 := h2.2.2.1
  obtain ⟨v, hv⟩ : ∃ v, v = w.alloc (.cells r.toArray 68) := ⟨_, rfl⟩
  have hbv : Below w.heap.size w v := by rw [hv]; exact below_alloc _ _
  have HB1 := Lib.hid (h1.below hbv h1.lt)
  have hz := hbv.size
  have HV := Lib.hid hv
  clear hv h1 h2
  go_enter Try.func23, Try.ntmps23
  go_wp2_with fail
  rw [← HV.out]
  refine wp_region_rel (fun W W' => Below W.heap.size W W') (fun W => Below v.heap.size v W)
    [Det (.pointer (some ⟨gm, 0, none⟩)), Det (.pointer (some ⟨gm, 0, none⟩)), Det (.pointer (some ⟨gm, 1, none⟩)), Det (.slice A rows.length c), Det (.int .i64 (rows.length : Int)), Det (.pointer (some ⟨gm, 0, none⟩)), Det (.pointer (some ⟨gm, 0, none⟩)), Det (.pointer (some ⟨gm, 0, none⟩)), Det (.int .i64 (n : Int)), Det (.bool true)]
    [[], [(0, some 5)], [(1, some 6)], [(2, some 7)], [(3, some 8)], [], [(5, some 10)], [(6, some 11)], [(7, some 12)], [(4, some 9), (8, some 13)]]
    [[], [0], [0, 1], [0, 1, 2], [0, 1, 2, 3], [], [5], [5, 6], [5, 6, 7], [0, 1, 2, 3, 4, 5, 6, 7, 8]]
    [(0, some 5), (1, some 6), (2, some 7), (3, some 8), (4, some 9), (5, some 10), (6, some 11), (7, some 12), (8, some 13), (9, some 14)] (by kernel_rfl) (by kernel_rfl) (fun W W' h1 h2 => h1.trans (h2.mono h1.size)) ((Below.refl _ _).drew) ?_ ?_ ?_
  · exact (AllMono.cons Det.later (AllMono.cons Det.later (AllMono.cons Det.later (AllMono.cons Det.later (AllMono.cons Det.later (AllMono.cons Det.later (AllMono.cons Det.later (AllMono.cons Det.later (AllMono.cons Det.later (AllMono.cons Det.later AllMono.nil))))))))))
  · refine AllOb.cons ?_ (AllOb.cons ?_ (AllOb.cons ?_ (AllOb.cons ?_ (AllOb.cons ?_ (AllOb.cons ?_ (AllOb.cons ?_ (AllOb.cons ?_ (AllOb.cons ?_ (AllOb.cons ?_ (AllOb.nil))))))))))
    · intro uF W hC' hU aF hF
      have hC : Below v.heap.size v W := hC'
      clear hC'
      simp only [puts] at hF
      subst hF
      go_wp2_with (fail)
      exact ⟨rfl, rfl, (Below.refl _ _), rfl⟩
    · intro uF W hC' hU aF hF
      have hC : Below v.heap.size v W := hC'
      clear hC'
      have h5 : (Det (.pointer (some ⟨gm, 0, none⟩))) (uF 0) W := hU.1
      clear hU
      simp only [puts, Act.put, List.setIfInBounds_toArray, List.set_cons_zero, List.set_cons_succ] at hF
      generalize uF 0 = x5 at h5 hF
      obtain rfl : x5 = (.pointer (some ⟨gm, 0, none⟩)) := h5
      subst hF
      go_wp2_with (fail)
      exact ⟨rfl, rfl, (Below.refl _ _), rfl⟩
    · intro uF W hC' hU aF hF
      have hC : Below v.heap.size v W := hC'
      clear hC'
      have h6 : (Det (.pointer (some ⟨gm, 0, none⟩))) (uF 1) W := hU.1
      clear hU
      simp only [puts, Act.put, List.setIfInBounds_toArray, List.set_cons_zero, List.set_cons_succ] at hF
      generalize uF 1 = x6 at h6 hF
      obtain rfl : x6 = (.pointer (some ⟨gm, 0, none⟩)) := h6
      subst hF
      go_wp2_with (fail)
      exact ⟨rfl, rfl, (Below.refl _ _), rfl⟩
    · intro uF W hC' hU aF hF
      have hC : Below v.heap.size v W := hC'
      clear hC'
      have h7 : (Det (.pointer (some ⟨gm, 1, none⟩))) (uF 2) W := hU.1
      clear hU
      simp only [puts, Act.put, List.setIfInBounds_toArray, List.set_cons_zero, List.set_cons_succ] at hF
      generalize uF 2 = x7 at h7 hF
      obtain rfl : x7 = (.pointer (some ⟨gm, 1, none⟩)) := h7
      subst hF
      have d1 : W.cell? ⟨gm, 1, none⟩ = some (.slice A rows.length c) := by rw [(HB1.out.below hC HB1.out.lt).cell]; rfl
      go_wp2_with (fail)
      exact ⟨rfl, rfl, (Below.refl _ _), rfl⟩
    · intro uF W hC' hU aF hF
      have hC : Below v.heap.size v W := hC'
      clear hC'
      have h8 : (Det (.slice A rows.length c)) (uF 3) W := hU.1
      clear hU
      simp only [puts, Act.put, List.setIfInBounds_toArray, List.set_cons_zero, List.set_cons_succ] at hF
      generalize uF 3 = x8 at h8 hF
      obtain rfl : x8 = (.slice A rows.length c) := h8
      subst hF
      go_wp2_with (fail)
      exact ⟨rfl, rfl, (Below.refl _ _), rfl⟩
    · intro uF W hC' hU aF hF
      have hC : Below v.heap.size v W := hC'
      clear hC'
      simp only [puts] at hF
      subst hF
      go_wp2_with (fail)
      exact ⟨rfl, rfl, (Below.refl _ _), rfl⟩
    · intro uF W hC' hU aF hF
      have hC : Below v.heap.size v W := hC'
      clear hC'
      have h10 : (Det (.pointer (some ⟨gm, 0, none⟩))) (uF 5) W := hU.1
      clear hU
      simp only [puts, Act.put, List.setIfInBounds_toArray, List.set_cons_zero, List.set_cons_succ] at hF
      generalize uF 5 = x10 at h10 hF
      obtain rfl : x10 = (.pointer (some ⟨gm, 0, none⟩)) := h10
      subst hF
      go_wp2_with (fail)
      exact ⟨rfl, rfl, (Below.refl _ _), rfl⟩
    · intro uF W hC' hU aF hF
      have hC : Below v.heap.size v W := hC'
      clear hC'
      have h11 : (Det (.pointer (some ⟨gm, 0, none⟩))) (uF 6) W := hU.1
      clear hU
      simp only [puts, Act.put, List.setIfInBounds_toArray, List.set_cons_zero, List.set_cons_succ] at hF
      generalize uF 6 = x11 at h11 hF
      obtain rfl : x11 = (.pointer (some ⟨gm, 0, none⟩)) := h11
      subst hF
      go_wp2_with (fail)
      exact ⟨rfl, rfl, (Below.refl _ _), rfl⟩
    · intro uF W hC' hU aF hF
      have hC : Below v.heap.size v W := hC'
      clear hC'
      have h12 : (Det (.pointer (some ⟨gm, 0, none⟩))) (uF 7) W := hU.1
      clear hU
      simp only [puts, Act.put, List.setIfInBounds_toArray, List.set_cons_zero, List.set_cons_succ] at hF
      generalize uF 7 = x12 at h12 hF
      obtain rfl : x12 = (.pointer (some ⟨gm, 0, none⟩)) := h12
      subst hF
      have d1 : W.cell? ⟨gm, 0, none⟩ = some (.int .i64 (n : Int)) := by rw [(HB1.out.below hC HB1.out.lt).cell]; rfl
      go_wp2_with (fail)
      exact ⟨rfl, rfl, (Below.refl _ _), rfl⟩
    · intro uF W hC' hU aF hF
      have hC : Below v.heap.size v W := hC'
      clear hC'
      have h9 : (Det (.int .i64 (rows.length : Int))) (uF 4) W := hU.1
      have h13 : (Det (.int .i64 (n : Int))) (uF 8) W := hU.2.1
      clear hU
      simp only [puts, Act.put, List.setIfInBounds_toArray, List.set_cons_zero, List.set_cons_succ] at hF
      generalize uF 4 = x9 at h9 hF
      generalize uF 8 = x13 at h13 hF
      obtain rfl : x9 = (.int .i64 (rows.length : Int)) := h9
      obtain rfl : x13 = (.int .i64 (n : Int)) := h13
      subst hF
      have hle : (n : Int) ≤ (rows.length : Int) := by omega
      go_wp2_with (fail)
      exact ⟨rfl, rfl, (Below.refl _ _), rfl⟩
  intro uF W5 hC' hU aF hF
  have hCW5 : Below v.heap.size v W5 := hC'
  clear hC'
  have h14 : (Det (.bool true)) (uF 9) W5 := hU.2.2.2.2.2.2.2.2.2.1
  clear hU
  simp only [puts, Act.put, List.setIfInBounds_toArray, List.set_cons_zero, List.set_cons_succ] at hF
  generalize uF 0 = x5 at hF
  generalize uF 1 = x6 at hF
  generalize uF 2 = x7 at hF
  generalize uF 3 = x8 at hF
  generalize uF 4 = x9 at hF
  generalize uF 5 = x10 at hF
  generalize uF 6 = x11 at hF
  generalize uF 7 = x12 at hF
  generalize uF 8 = x13 at hF
  generalize uF 9 = x14 at h14 hF
  obtain rfl : x14 = (.bool true) := h14
  subst hF
  go_wp2_with fail
  go_ret
  exact ⟨rfl, hbv.trans (hCW5.mono hz)⟩
/-- The row of one command. -/
def RelN1 (B : Nat) (r : List Value) : Value → World → Prop := fun x w => ∃ g, x = .slice (some ⟨g, 0, none⟩) 1 1 ∧ B ≤ g ∧ Blk w g 68 r.toArray
def RelA (base N : Nat) (xs : List Value) : Value → World → Prop := fun x w => ∃ A' C', x = .slice A' N C' ∧ Row w base 68 13 A' N C' xs
def LeA (base : Nat) (A : Option Addr) (C N : Nat) (xs : List Value) (w w' : World) : Prop := Fr (wrote A C).toList w w' ∧ ∀ A4 C4, Row w base 68 13 A4 N C4 xs → Row w' base 68 13 A4 N C4 xs
section
variable {base N C B : Nat} {A : Option Addr} {xs : List Value}
theorem Det.laterA {c : Value} (hl : ∀ g ∈ (wrote A C).toList, g < B) (x : Value) (w w' : World) (hb : LeA base A C N xs w w') (h : Det c x w) : Det c x w' := h
theorem Any.laterA (hl : ∀ g ∈ (wrote A C).toList, g < B) (x : Value) (w w' : World) (hb : LeA base A C N xs w w') (h : Any x w) : Any x w' := h
theorem RelN1.laterA {r : List Value} (hl : ∀ g ∈ (wrote A C).toList, g < B) (x : Value) (w w' : World) (hb : LeA base A C N xs w w') (h : RelN1 B r x w) : RelN1 B r x w' := by
  obtain ⟨g, e, hg, hk⟩ := h
  exact ⟨g, e, hg, hb.1.blk hk (fun hx => by have := hl g hx; omega)⟩
theorem RelA.laterA (hl : ∀ g ∈ (wrote A C).toList, g < B) (x : Value) (w w' : World) (hb : LeA base A C N xs w w') (h : RelA base N xs x w) : RelA base N xs x w' := by
  obtain ⟨A', C', e, h⟩ := h
  exact ⟨A', C', e, hb.2 A' C' h⟩
end
/-- The region that puts a command to the list: false ahead of it, true behind it. -/
structure CA (w0 : World) (base gm g3 : Nat) (bc : Array Value) (A : Option Addr) (N C : Nat) (xs : List Value) (r : List Value) (b : Bool) (w : World) : Prop where
  fr : Fr (wrote A C).toList w0 w
  bel : Below base w0 w
  bm : Blk w gm 63 bc
  b3 : Blk w g3 68 r.toArray
  rw_ : b = false → Row w base 68 13 A N C xs
section
variable {w0 w w' : World} {base gm g3 N C : Nat} {bc : Array Value} {A : Option Addr} {xs r : List Value} {b : Bool}
theorem CA.size (h : CA w0 base gm g3 bc A N C xs r b w) : w0.heap.size ≤ w.heap.size := h.fr.1
theorem CA.go (hB : base ≤ w0.heap.size) {ys : List Value} {M : Nat} (h : CA w0 base gm g3 bc A N C xs r b w) (hb : Below w.heap.size w w') : LeA base A C M ys w w' ∧ CA w0 base gm g3 bc A N C xs r b w' :=
  ⟨⟨Fr.below hb, fun A4 C4 h4 => Row.below h4 hb⟩, h.fr.trans (Fr.below hb), h.bel.trans (hb.mono (Nat.le_trans hB h.size)), h.bm.below hb h.bm.lt, h.b3.below hb h.b3.lt, fun e => Row.below (h.rw_ e) hb⟩
theorem CA.app (hB : base ≤ w0.heap.size) (h : CA w0 base gm g3 bc A N C xs r false w) (h3 : g3 ∉ (wrote A C).toList) {A' : Option Addr} {C' : Nat} {ys : List Value} {M : Nat} (hw : Went w w' A N C 1 A' C')
    (hK : ∀ A4 c4, Row w base 68 13 A4 M c4 ys → Row w' base 68 13 A4 M c4 ys) : LeA base A C M ys w w' ∧ CA w0 base gm g3 bc A N C xs r true w' := by
  have hf := Fr.ofWent hw
  exact ⟨⟨hf, hK⟩, h.fr.trans hf, hw.below (h.rw_ rfl) h.bel (Nat.le_refl _) (Nat.le_trans hB h.size), hf.blk h.bm (wrote_ne (h.rw_ rfl) h.bm (by decide)), hf.blk h.b3 h3, fun e => by cases e⟩
end
theorem sl_oneR {w : World} {g B : Nat} {r : List Value} (hr : r.length = 13) (hb : Blk w g 68 r.toArray) (hB : g < B) : Sl w B 13 (some ⟨g, 0, none⟩) 1 1 r :=
  ⟨by rw [hr], Nat.le_refl _, by simp [maxLen], fun _ => ⟨g, 0, rfl, hB, fun j u hu => by rw [Nat.zero_add, hb.cell]; simpa using hu⟩⟩
set_option maxHeartbeats 4000000 in
theorem rput_yes {w : World} {base gm n : Nat} {rows : List (List Value)} (h : Rq w base gm n rows) (hx : rows.length < n) {r : List Value} (hr : r.length = 13 ∧ ∀ v ∈ r, v.oneCell' = true) :
    Calls Try.prog 23 #[.pointer (some ⟨gm, 0, none⟩), .agg r.toArray] w fun e w' => e = .returned (.bool true) ∧ Rq w' base gm n (rows ++ [r]) ∧ Below base w w' ∧ TyR w w' := by
  obtain ⟨A, c, h1, h2, h3, h4, h5, h6⟩ := h
  have hnc := h2.2.1
  have hcm : c ≤ 9223372036854775807 := h2.2.2.1
  have hgl := h1.lt
  obtain ⟨v, hv⟩ : ∃ v, v = w.alloc (.cells r.toArray 68) := ⟨_, rfl⟩
  have b3 : Blk v w.heap.size 68 r.toArray := by rw [hv]; exact Blk.new _ _ _
  have hbv : Below w.heap.size w v := by rw [hv]; exact below_alloc _ _
  have hz := hbv.size
  have hwl : ∀ g ∈ (wrote A c).toList, g < w.heap.size ∧ ∃ cur, Blk w g 68 cur := fun g hg => by
    rcases Row.wrote_lt h2 with e | ⟨g', cur, e, _, hlt, hb⟩
    · rw [e] at hg; simp at hg
    · rw [e] at hg; simp at hg; subst hg; exact ⟨hlt, cur, hb⟩
  have HW0 := Lib.hid h1
  have HWL := Lib.hid hwl
  have HB1 := Lib.hid (h1.below hbv h1.lt)
  have HR2 := Lib.hid (Row.below h2 hbv)
  have HB3 := Lib.hid b3
  have HR := Lib.hid hr
  have HV := Lib.hid hv
  have H4 := Lib.hid h4
  obtain ⟨L, hL⟩ : ∃ L, L = rows.length := ⟨_, rfl⟩
  have HL := Lib.hid hL
  rw [← hL] at HB1 HR2 hnc hx h5 HW0
  clear hv h1 h2 b3 hr hwl hL h4
  go_enter Try.func23, Try.ntmps23
  go_wp2_with fail
  rw [← HV.out]
  refine wp_region_rel (fun W W' => Below W.heap.size W W') (fun W => Below v.heap.size v W)
    [Det (.pointer (some ⟨gm, 0, none⟩)), Det (.pointer (some ⟨gm, 0, none⟩)), Det (.pointer (some ⟨gm, 1, none⟩)), Det (.slice A L c), Det (.int .i64 (L : Int)), Det (.pointer (some ⟨gm, 0, none⟩)), Det (.pointer (some ⟨gm, 0, none⟩)), Det (.pointer (some ⟨gm, 0, none⟩)), Det (.int .i64 (n : Int)), Det (.bool false)]
    [[], [(0, some 5)], [(1, some 6)], [(2, some 7)], [(3, some 8)], [], [(5, some 10)], [(6, some 11)], [(7, some 12)], [(4, some 9), (8, some 13)]]
    [[], [0], [0, 1], [0, 1, 2], [0, 1, 2, 3], [], [5], [5, 6], [5, 6, 7], [0, 1, 2, 3, 4, 5, 6, 7, 8]]
    [(0, some 5), (1, some 6), (2, some 7), (3, some 8), (4, some 9), (5, some 10), (6, some 11), (7, some 12), (8, some 13), (9, some 14)] (by kernel_rfl) (by kernel_rfl) (fun W W' h1 h2 => h1.trans (h2.mono h1.size)) ((Below.refl _ _).drew) ?_ ?_ ?_
  · exact (AllMono.cons Det.later (AllMono.cons Det.later (AllMono.cons Det.later (AllMono.cons Det.later (AllMono.cons Det.later (AllMono.cons Det.later (AllMono.cons Det.later (AllMono.cons Det.later (AllMono.cons Det.later (AllMono.cons Det.later AllMono.nil))))))))))
  · refine AllOb.cons ?_ (AllOb.cons ?_ (AllOb.cons ?_ (AllOb.cons ?_ (AllOb.cons ?_ (AllOb.cons ?_ (AllOb.cons ?_ (AllOb.cons ?_ (AllOb.cons ?_ (AllOb.cons ?_ (AllOb.nil))))))))))
    · intro uF W hC' hU aF hF
      have hC : Below v.heap.size v W := hC'
      clear hC'
      simp only [puts] at hF
      subst hF
      go_wp2_with (fail)
      exact ⟨rfl, rfl, (Below.refl _ _), rfl⟩
    · intro uF W hC' hU aF hF
      have hC : Below v.heap.size v W := hC'
      clear hC'
      have h5 : (Det (.pointer (some ⟨gm, 0, none⟩))) (uF 0) W := hU.1
      clear hU
      simp only [puts, Act.put, List.setIfInBounds_toArray, List.set_cons_zero, List.set_cons_succ] at hF
      generalize uF 0 = x5 at h5 hF
      obtain rfl : x5 = (.pointer (some ⟨gm, 0, none⟩)) := h5
      subst hF
      go_wp2_with (fail)
      exact ⟨rfl, rfl, (Below.refl _ _), rfl⟩
    · intro uF W hC' hU aF hF
      have hC : Below v.heap.size v W := hC'
      clear hC'
      have h6 : (Det (.pointer (some ⟨gm, 0, none⟩))) (uF 1) W := hU.1
      clear hU
      simp only [puts, Act.put, List.setIfInBounds_toArray, List.set_cons_zero, List.set_cons_succ] at hF
      generalize uF 1 = x6 at h6 hF
      obtain rfl : x6 = (.pointer (some ⟨gm, 0, none⟩)) := h6
      subst hF
      go_wp2_with (fail)
      exact ⟨rfl, rfl, (Below.refl _ _), rfl⟩
    · intro uF W hC' hU aF hF
      have hC : Below v.heap.size v W := hC'
      clear hC'
      have h7 : (Det (.pointer (some ⟨gm, 1, none⟩))) (uF 2) W := hU.1
      clear hU
      simp only [puts, Act.put, List.setIfInBounds_toArray, List.set_cons_zero, List.set_cons_succ] at hF
      generalize uF 2 = x7 at h7 hF
      obtain rfl : x7 = (.pointer (some ⟨gm, 1, none⟩)) := h7
      subst hF
      have d1 : W.cell? ⟨gm, 1, none⟩ = some (.slice A L c) := by rw [(HB1.out.below hC HB1.out.lt).cell]; rfl
      go_wp2_with (fail)
      exact ⟨rfl, rfl, (Below.refl _ _), rfl⟩
    · intro uF W hC' hU aF hF
      have hC : Below v.heap.size v W := hC'
      clear hC'
      have h8 : (Det (.slice A L c)) (uF 3) W := hU.1
      clear hU
      simp only [puts, Act.put, List.setIfInBounds_toArray, List.set_cons_zero, List.set_cons_succ] at hF
      generalize uF 3 = x8 at h8 hF
      obtain rfl : x8 = (.slice A L c) := h8
      subst hF
      go_wp2_with (fail)
      exact ⟨rfl, rfl, (Below.refl _ _), rfl⟩
    · intro uF W hC' hU aF hF
      have hC : Below v.heap.size v W := hC'
      clear hC'
      simp only [puts] at hF
      subst hF
      go_wp2_with (fail)
      exact ⟨rfl, rfl, (Below.refl _ _), rfl⟩
    · intro uF W hC' hU aF hF
      have hC : Below v.heap.size v W := hC'
      clear hC'
      have h10 : (Det (.pointer (some ⟨gm, 0, none⟩))) (uF 5) W := hU.1
      clear hU
      simp only [puts, Act.put, List.setIfInBounds_toArray, List.set_cons_zero, List.set_cons_succ] at hF
      generalize uF 5 = x10 at h10 hF
      obtain rfl : x10 = (.pointer (some ⟨gm, 0, none⟩)) := h10
      subst hF
      go_wp2_with (fail)
      exact ⟨rfl, rfl, (Below.refl _ _), rfl⟩
    · intro uF W hC' hU aF hF
      have hC : Below v.heap.size v W := hC'
      clear hC'
      have h11 : (Det (.pointer (some ⟨gm, 0, none⟩))) (uF 6) W := hU.1
      clear hU
      simp only [puts, Act.put, List.setIfInBounds_toArray, List.set_cons_zero, List.set_cons_succ] at hF
      generalize uF 6 = x11 at h11 hF
      obtain rfl : x11 = (.pointer (some ⟨gm, 0, none⟩)) := h11
      subst hF
      go_wp2_with (fail)
      exact ⟨rfl, rfl, (Below.refl _ _), rfl⟩
    · intro uF W hC' hU aF hF
      have hC : Below v.heap.size v W := hC'
      clear hC'
      have h12 : (Det (.pointer (some ⟨gm, 0, none⟩))) (uF 7) W := hU.1
      clear hU
      simp only [puts, Act.put, List.setIfInBounds_toArray, List.set_cons_zero, List.set_cons_succ] at hF
      generalize uF 7 = x12 at h12 hF
      obtain rfl : x12 = (.pointer (some ⟨gm, 0, none⟩)) := h12
      subst hF
      have d1 : W.cell? ⟨gm, 0, none⟩ = some (.int .i64 (n : Int)) := by rw [(HB1.out.below hC HB1.out.lt).cell]; rfl
      go_wp2_with (fail)
      exact ⟨rfl, rfl, (Below.refl _ _), rfl⟩
    · intro uF W hC' hU aF hF
      have hC : Below v.heap.size v W := hC'
      clear hC'
      have h9 : (Det (.int .i64 (L : Int))) (uF 4) W := hU.1
      have h13 : (Det (.int .i64 (n : Int))) (uF 8) W := hU.2.1
      clear hU
      simp only [puts, Act.put, List.setIfInBounds_toArray, List.set_cons_zero, List.set_cons_succ] at hF
      generalize uF 4 = x9 at h9 hF
      generalize uF 8 = x13 at h13 hF
      obtain rfl : x9 = (.int .i64 (L : Int)) := h9
      obtain rfl : x13 = (.int .i64 (n : Int)) := h13
      subst hF
      have hle : ¬ (n : Int) ≤ (L : Int) := by omega
      go_wp2_with (fail)
      exact ⟨rfl, rfl, (Below.refl _ _), rfl⟩
  intro uF W5 hC' hU aF hF
  have hCW5 : Below v.heap.size v W5 := hC'
  clear hC'
  have h14 : (Det (.bool false)) (uF 9) W5 := hU.2.2.2.2.2.2.2.2.2.1
  clear hU
  simp only [puts, Act.put, List.setIfInBounds_toArray, List.set_cons_zero, List.set_cons_succ] at hF
  generalize uF 0 = x5 at hF
  generalize uF 1 = x6 at hF
  generalize uF 2 = x7 at hF
  generalize uF 3 = x8 at hF
  generalize uF 4 = x9 at hF
  generalize uF 5 = x10 at hF
  generalize uF 6 = x11 at hF
  generalize uF 7 = x12 at hF
  generalize uF 8 = x13 at hF
  generalize uF 9 = x14 at h14 hF
  obtain rfl : x14 = (.bool false) := h14
  subst hF
  go_wp2_with fail
  have hz5 := hCW5.size
  have hB := h3
  have hbw : base ≤ W5.heap.size := by omega
  have HST := Lib.hid (show CA W5 base gm w.heap.size #[.int .i64 (n : Int), .slice A L c] A L c rows.flatten r false W5.drew from ⟨Fr.below (Below.refl _ _).drew, (Below.refl _ _).drew, HB1.out.below hCW5.drew HB1.out.lt, HB3.out.below hCW5.drew HB3.out.lt, fun _ => Row.below HR2.out hCW5.drew⟩)
  have HLW := Lib.hid (show ∀ g ∈ (wrote A c).toList, g < W5.heap.size from fun g hg => by have := (HWL.out g hg).1; omega)
  have H3W := Lib.hid (show w.heap.size ∉ (wrote A c).toList from fun hg => by have := (HWL.out _ hg).1; omega)
  have hb05 := hbv.trans (hCW5.mono hz)
  have HB05 := Lib.hid hb05
  clear hCW5 hb05
  refine (wpIn_wide (n := 4)).1 ?_
  refine wpIn_region_relS free_wide rfl 10 (LeA base A c (L + 1) (rows.flatten ++ r)) (fun W W' => Below W.heap.size W W') 7 (CA W5 base gm w.heap.size #[.int .i64 (n : Int), .slice A L c] A L c rows.flatten r)
    [Det (.pointer (some ⟨gm, 0, none⟩)), Det (.pointer (some ⟨gm, 0, none⟩)), Det (.pointer (some ⟨gm, 0, none⟩)), Det (.pointer (some ⟨gm, 1, none⟩)), Det (.slice A L c), Det (.agg r.toArray), RelN1 W5.heap.size r, RelA base (L + 1) (rows.flatten ++ r), Det (.pointer (some ⟨gm, 0, none⟩)), Det (.pointer (some ⟨gm, 1, none⟩)), Any]
    [[], [], [(1, some 16)], [(2, some 17)], [(3, some 18)], [], [(5, some 20)], [(4, some 19), (6, some 21)], [(0, some 15)], [(8, some 23)], [(9, some 24), (7, some 22)]]
    [[], [], [1], [1, 2], [1, 2, 3], [], [5], [1, 2, 3, 4, 5, 6], [0, 1, 2, 3, 4, 5, 6, 7], [0, 1, 2, 3, 4, 5, 6, 7, 8], [0, 1, 2, 3, 4, 5, 6, 7, 8, 9]]
    [(0, some 15), (1, some 16), (2, some 17), (3, some 18), (4, some 19), (5, some 20), (6, some 21), (7, some 22), (8, some 23), (9, some 24), (10, none)] (by kernel_rfl) (by kernel_rfl) (by kernel_rfl) (fun b W W1 h1 h2 => CA.go hbw h1 h2) (by decide) HST.out ?_ ?_ ?_
  · exact (AllMono.cons (Det.laterA HLW.out) (AllMono.cons (Det.laterA HLW.out) (AllMono.cons (Det.laterA HLW.out) (AllMono.cons (Det.laterA HLW.out) (AllMono.cons (Det.laterA HLW.out) (AllMono.cons (Det.laterA HLW.out) (AllMono.cons (RelN1.laterA HLW.out) (AllMono.cons (RelA.laterA HLW.out) (AllMono.cons (Det.laterA HLW.out) (AllMono.cons (Det.laterA HLW.out) (AllMono.cons (Any.laterA HLW.out) AllMono.nil)))))))))))
  · refine AllObS.cons (by decide) ?_ (AllObS.cons (by decide) ?_ (AllObS.cons (by decide) ?_ (AllObS.cons (by decide) ?_ (AllObS.cons (by decide) ?_ (AllObS.cons (by decide) ?_ (AllObS.cons (by decide) ?_ (AllObS.call ?_ (AllObS.cons (by decide) ?_ (AllObS.cons (by decide) ?_ (AllObS.nil))))))))))
    · intro bF uF W hC' hU aF hF
      have hC : CA W5 base gm w.heap.size #[.int .i64 (n : Int), .slice A L c] A L c rows.flatten r bF W := hC'
      clear hC'
      simp only [puts] at hF
      subst hF
      go_wp2_with (fail)
      exact ⟨rfl, rfl, (Below.refl _ _), rfl⟩
    · intro bF uF W hC' hU aF hF
      have hC : CA W5 base gm w.heap.size #[.int .i64 (n : Int), .slice A L c] A L c rows.flatten r bF W := hC'
      clear hC'
      simp only [puts] at hF
      subst hF
      go_wp2_with (fail)
      exact ⟨rfl, rfl, (Below.refl _ _), rfl⟩
    · intro bF uF W hC' hU aF hF
      have hC : CA W5 base gm w.heap.size #[.int .i64 (n : Int), .slice A L c] A L c rows.flatten r bF W := hC'
      clear hC'
      have h16 : (Det (.pointer (some ⟨gm, 0, none⟩))) (uF 1) W := hU.1
      clear hU
      simp only [puts, Act.put, List.setIfInBounds_toArray, List.set_cons_zero, List.set_cons_succ] at hF
      generalize uF 1 = x16 at h16 hF
      obtain rfl : x16 = (.pointer (some ⟨gm, 0, none⟩)) := h16
      subst hF
      go_wp2_with (fail)
      exact ⟨rfl, rfl, (Below.refl _ _), rfl⟩
    · intro bF uF W hC' hU aF hF
      have hC : CA W5 base gm w.heap.size #[.int .i64 (n : Int), .slice A L c] A L c rows.flatten r bF W := hC'
      clear hC'
      have h17 : (Det (.pointer (some ⟨gm, 0, none⟩))) (uF 2) W := hU.1
      clear hU
      simp only [puts, Act.put, List.setIfInBounds_toArray, List.set_cons_zero, List.set_cons_succ] at hF
      generalize uF 2 = x17 at h17 hF
      obtain rfl : x17 = (.pointer (some ⟨gm, 0, none⟩)) := h17
      subst hF
      go_wp2_with (fail)
      exact ⟨rfl, rfl, (Below.refl _ _), rfl⟩
    · intro bF uF W hC' hU aF hF
      have hC : CA W5 base gm w.heap.size #[.int .i64 (n : Int), .slice A L c] A L c rows.flatten r bF W := hC'
      clear hC'
      have h18 : (Det (.pointer (some ⟨gm, 1, none⟩))) (uF 3) W := hU.1
      clear hU
      simp only [puts, Act.put, List.setIfInBounds_toArray, List.set_cons_zero, List.set_cons_succ] at hF
      generalize uF 3 = x18 at h18 hF
      obtain rfl : x18 = (.pointer (some ⟨gm, 1, none⟩)) := h18
      subst hF
      have d1 : W.cell? ⟨gm, 1, none⟩ = some (.slice A L c) := by rw [hC.bm.cell]; rfl
      go_wp2_with (fail)
      exact ⟨rfl, rfl, (Below.refl _ _), rfl⟩
    · intro bF uF W hC' hU aF hF
      have hC : CA W5 base gm w.heap.size #[.int .i64 (n : Int), .slice A L c] A L c rows.flatten r bF W := hC'
      clear hC'
      simp only [puts] at hF
      subst hF
      go_wp2_with (((with_reducible show wpList _ _ _ (Oper.mk _ (Op.load _ _) _ _ _ _ :: _) _ _); refine wpList_load_whole (by rfl) 68 (.tmp 3) rfl w.heap.size rfl r.toArray aggR (by simpa using HR.out.1) _ hC.b3 ?_))
      exact ⟨rfl, rfl, (Below.refl _ _), rfl⟩
    · intro bF uF W hC' hU aF hF
      have hC : CA W5 base gm w.heap.size #[.int .i64 (n : Int), .slice A L c] A L c rows.flatten r bF W := hC'
      clear hC'
      have h20 : (Det (.agg r.toArray)) (uF 5) W := hU.1
      clear hU
      simp only [puts, Act.put, List.setIfInBounds_toArray, List.set_cons_zero, List.set_cons_succ] at hF
      generalize uF 5 = x20 at h20 hF
      obtain rfl : x20 = (.agg r.toArray) := h20
      subst hF
      go_wp2_with (((with_reducible show wpList _ _ _ (Oper.mk _ (Op.buildSlice _ _ _) _ _ _ _ :: _) _ _); refine wpList_one_row (by rfl) 61 (.tmp 20) rfl Try.underlying61 sizeR0 zeroR rfl (by omega) (by omega) r.toArray rfl (by simpa using HR.out.1) ?_))
      exact ⟨rfl, rfl, (below_alloc _ _), ⟨_, rfl, hC.size, Blk.new _ _ _⟩⟩
    · intro uF W hC' hU aF hF
      have hC : CA W5 base gm w.heap.size #[.int .i64 (n : Int), .slice A L c] A L c rows.flatten r false W := hC'
      clear hC'
      have h19 : (Det (.slice A L c)) (uF 4) W := hU.1
      have h21 : (RelN1 W5.heap.size r) (uF 6) W := hU.2.1
      clear hU
      simp only [puts, Act.put, List.setIfInBounds_toArray, List.set_cons_zero, List.set_cons_succ] at hF
      generalize uF 4 = x19 at h19 hF
      generalize uF 6 = x21 at h21 hF
      obtain rfl : x19 = (.slice A L c) := h19
      obtain ⟨g21, rfl, z21, b21⟩ := h21
      subst hF
      go_wp2_with ((at_builtin; refine wpList_appendR rfl (.tmp 19) (.tmp 21) rfl rfl (hC.rw_ rfl) rfl (sl_oneR HR.out.1 b21 b21.lt) HR.out.2 (by omega) (Nat.le_trans hbw hC.size) (L + 1) rfl ?_; intro A5 C5 W1 h5 q5 k5))
      exact ⟨rfl, rfl, (CA.app hbw hC H3W.out q5 k5), ⟨A5, C5, rfl, h5⟩⟩
    · intro bF uF W hC' hU aF hF
      have hC : CA W5 base gm w.heap.size #[.int .i64 (n : Int), .slice A L c] A L c rows.flatten r bF W := hC'
      clear hC'
      have h15 : (Det (.pointer (some ⟨gm, 0, none⟩))) (uF 0) W := hU.1
      clear hU
      simp only [puts, Act.put, List.setIfInBounds_toArray, List.set_cons_zero, List.set_cons_succ] at hF
      generalize uF 0 = x15 at h15 hF
      obtain rfl : x15 = (.pointer (some ⟨gm, 0, none⟩)) := h15
      subst hF
      go_wp2_with (fail)
      exact ⟨rfl, rfl, (Below.refl _ _), rfl⟩
    · intro bF uF W hC' hU aF hF
      have hC : CA W5 base gm w.heap.size #[.int .i64 (n : Int), .slice A L c] A L c rows.flatten r bF W := hC'
      clear hC'
      have h23 : (Det (.pointer (some ⟨gm, 0, none⟩))) (uF 8) W := hU.1
      clear hU
      simp only [puts, Act.put, List.setIfInBounds_toArray, List.set_cons_zero, List.set_cons_succ] at hF
      generalize uF 8 = x23 at h23 hF
      obtain rfl : x23 = (.pointer (some ⟨gm, 0, none⟩)) := h23
      subst hF
      go_wp2_with (fail)
      exact ⟨rfl, rfl, (Below.refl _ _), rfl⟩
  intro uF W6 hC' hU aF hF
  have hCW6 : CA W5 base gm w.heap.size #[.int .i64 (n : Int), .slice A L c] A L c rows.flatten r true W6 := hC'
  clear hC'
  have h22 : (RelA base (L + 1) (rows.flatten ++ r)) (uF 7) W6 := hU.2.2.2.2.2.2.2.1
  have h24 : (Det (.pointer (some ⟨gm, 1, none⟩))) (uF 9) W6 := hU.2.2.2.2.2.2.2.2.2.1
  clear hU
  simp only [List.take_succ_cons, List.take_zero, puts, Act.put, List.setIfInBounds_toArray, List.set_cons_zero, List.set_cons_succ] at hF
  generalize uF 0 = x15 at hF
  generalize uF 1 = x16 at hF
  generalize uF 2 = x17 at hF
  generalize uF 3 = x18 at hF
  generalize uF 4 = x19 at hF
  generalize uF 5 = x20 at hF
  generalize uF 6 = x21 at hF
  generalize uF 7 = x22 at h22 hF
  generalize uF 8 = x23 at hF
  generalize uF 9 = x24 at h24 hF
  obtain ⟨A22, C22, rfl, s22⟩ := h22
  obtain rfl : x24 = (.pointer (some ⟨gm, 1, none⟩)) := h24
  subst hF
  simp only [List.drop_succ_cons, List.drop_zero]
  have d6 : W6.cell? ⟨gm, 1, none⟩ = some (.slice A L c) := by rw [hCW6.bm.cell]; rfl
  have f6 := hCW6.bm.frozen 1
  obtain ⟨W7, hW7⟩ : ∃ W7, W7 = W6.setCell ⟨gm, 1, none⟩ (.slice A22 (L + 1) C22) := ⟨_, rfl⟩
  have b7 : Blk W7 gm 63 #[.int .i64 (n : Int), .slice A22 (L + 1) C22] := by rw [hW7]; simpa using hCW6.bm.set_ 1 (.slice A22 (L + 1) C22)
  have r7 : Row W7 base 68 13 A22 (L + 1) C22 (rows.flatten ++ r) := by
    rw [hW7]
    refine ⟨s22.1, s22.2.1, s22.2.2.1, fun hc => ?_⟩
    obtain ⟨g', cur, e1, hg', hb, hs, ht⟩ := s22.2.2.2 hc
    exact ⟨g', cur, e1, hg', hb.far (by show g' ≠ gm; exact hb.ne_ty hCW6.bm (by decide)) _, hs, ht⟩
  have hb7 : Below base w W7 := by rw [hW7]; exact ((HB05.out.mono (by omega)).trans hCW6.bel).setCell (p := ⟨gm, 1, none⟩) (by show base ≤ gm; omega) _
  have ht7 : TyR w W7 := by
    refine TyR.keep HW0.out (L := (wrote A c).toList) (fun g hg => (HWL.out g hg).2) hb7.size (fun g hg e1 e2 => ?_)
    rw [hW7, Below.heap_setCell _ _ _ _ (show g ≠ gm from e1), hCW6.fr.2 g (Nat.lt_of_lt_of_le hg HB05.out.size) e2]
    exact HB05.out.block g hg
  have HW7 := Lib.hid hW7
  have HB7 := Lib.hid b7
  have HR7 := Lib.hid r7
  have HBL7 := Lib.hid hb7
  have HT7 := Lib.hid ht7
  clear hW7 b7 r7 hb7 ht7 hCW6 s22
  gi_wp2
  go_wp2_with fail
  rw [← HW7.out]
  go_ret
  refine ⟨rfl, ⟨A22, C22, ?_, ?_, h3, fun x hx => ?_, ?_, h6⟩, HBL7.out, HT7.out⟩
  · rw [List.length_append, ← HL.out]; exact HB7.out
  · rw [List.length_append, ← HL.out, List.flatten_append]; simpa using HR7.out
  · rcases List.mem_append.1 hx with hx | hx
    · exact H4.out x hx
    · rw [List.mem_singleton.1 hx]; exact HR.out
  · rw [List.length_append, ← HL.out, List.length_singleton]; omega
end Go.Proofs.Ytkiiobfomnggcaa

