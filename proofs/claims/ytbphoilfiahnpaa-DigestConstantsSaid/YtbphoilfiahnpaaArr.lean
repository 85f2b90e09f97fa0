/-
  Arrays as values: alloc, load, store, copy and '==' at arrays of integers.
-/
import Derived.Test.YtbphoilfiahnpaaByt
import Derived.Laws.StructEq
namespace Go.Proofs.Ytbphoilfiahnpaa
open Go.RowKit
set_option linter.unusedVariables false

/-- Cells with others laid over them from place 'off' on. -/
def splice (cur : Array Value) (off : Nat) (vs : List Value) : Array Value := (cur.toList.take off ++ vs ++ cur.toList.drop (off + vs.length)).toArray
theorem size_splice (cur : Array Value) (off : Nat) (vs : List Value) (h : off + vs.length ≤ cur.size) : (splice cur off vs).size = cur.size := by
  simp [splice]; omega
theorem splice_get (cur : Array Value) (off : Nat) (vs : List Value) (h : off + vs.length ≤ cur.size) (j : Nat) :
    (splice cur off vs)[j]? = if off ≤ j ∧ j < off + vs.length then vs[j - off]? else cur[j]? := by
  have h1 : (splice cur off vs)[j]? = (cur.toList.take off ++ vs ++ cur.toList.drop (off + vs.length))[j]? := by simp [splice]
  rw [h1]
  have hlen : (cur.toList.take off).length = off := by simp; omega
  by_cases ha : j < off
  · rw [List.append_assoc, List.getElem?_append_left (by omega), List.getElem?_take, if_pos ha, if_neg (by omega)]; simp
  · by_cases hb : j < off + vs.length
    · rw [List.append_assoc, List.getElem?_append_right (by omega), hlen, List.getElem?_append_left (by omega), if_pos (by omega)]
    · rw [List.getElem?_append_right (by rw [List.length_append, hlen]; omega), List.length_append, hlen, List.getElem?_drop, if_neg (by omega), show off + vs.length + (j - (off + vs.length)) = j from by omega]
      simp
theorem splice_whole (cur : Array Value) (vs : List Value) (h : vs.length = cur.size) : splice cur 0 vs = vs.toArray := by
  simp [splice, h]

/-- An array of bytes, of words of 32 bits, as cells. -/
def arr8 (bs : List UInt8) : Array Value := (bs.map b8).toArray
def b32 (x : UInt32) : Value := .int .u32 (x.toNat : Int)
def arr32 (ws : List UInt32) : Array Value := (ws.map b32).toArray
theorem size_arr8 (bs : List UInt8) : (arr8 bs).size = bs.length := by simp [arr8]
theorem size_arr32 (ws : List UInt32) : (arr32 ws).size = ws.length := by simp [arr32]
theorem arr8_get (bs : List UInt8) (j : Nat) : (arr8 bs)[j]? = (bs[j]?).map b8 := by simp [arr8]
theorem arr32_get (ws : List UInt32) (j : Nat) : (arr32 ws)[j]? = (ws[j]?).map b32 := by simp [arr32]

section
variable {P : Program} {o : Oper} {a : Act} {w : World} {K : Act → World → Prop} {Q : Exit → Act → World → Prop}

/-- The type is an array or a struct of so many cells. -/
def AggT (P : Program) (T : TypeId) (n : Nat) : Prop := (∃ d, P.underlying T = some d ∧ (match d with | .struct _ | .array _ _ => true | _ => false) = true) ∧ (P.info? T).map (·.size) = some n

theorem AggT.agg_ {T : TypeId} {n : Nat} (h : AggT P T n) (w : World) : (isAgg T).run P w = .ok true w := by
  obtain ⟨⟨d, hu, hd⟩, _⟩ := h
  unfold isAgg
  rw [Sem.run_bind, run_underlying hu w]
  cases d <;> simp_all
theorem AggT.size_ {T : TypeId} {n : Nat} (h : AggT P T n) (w : World) : (sizeOf T).run P w = .ok n w := by
  obtain ⟨_, hi⟩ := h
  cases hq : P.info? T with
  | none => simp [hq] at hi
  | some i =>
    have hs : i.size = n := by simpa [hq] using hi
    simp [Go.sizeOf, typeInfo, hq, hs]

theorem run_loadVar_agg {T : TypeId} (g off : Nat) (vs : Array Value) (hT : AggT P T vs.size) (hc : ∀ j v, vs[j]? = some v → w.cell? ⟨g, off + j, none⟩ = some v) :
    (loadVar T ⟨g, off, none⟩).run P w = .ok (.agg vs) w := by
  have hl : (loadCells ⟨g, off, none⟩ vs.toList.length).run P w = .ok vs.toList.toArray w :=
    run_loadCells_list (P := P) w ⟨g, off, none⟩ vs.toList (fun j v hv => by
      rw [Addr.add_lit]
      exact hc j v (by simpa using hv))
  simp only [Array.length_toList, Array.toArray_toList] at hl
  simp [loadVar, Sem.run_bind, hT.agg_, hT.size_, hl]

theorem wp_load_agg (T : TypeId) (x : Operand) (ho : o.op = .load T x) (g off : Nat) (hx : a.eval x = .pointer (some ⟨g, off, none⟩)) (vs : Array Value) (hT : AggT P T vs.size)
    (hc : ∀ j v, vs[j]? = some v → w.cell? ⟨g, off + j, none⟩ = some v) (h : K (a.put o.dst (.agg vs)) w) : o.wp P a w K Q := by
  unfold Oper.wp execOp
  simp only [ho, hx, Instr.loadAt, Instr.sureAddr, Sem.run_bind, Sem.run_pure, Result.andThen_ok, run_loadVar_agg g off vs hT hc]
  exact h

theorem run_storeVar_agg {T t : TypeId} (g off : Nat) (vs : List Value) (hT : AggT P T vs.length) (cur : Array Value) (hb : Blk w g t cur) (hfit : off + vs.length ≤ cur.size) (h1 : ∀ v ∈ vs, v.oneCell' = true) :
    (storeVar T ⟨g, off, none⟩ (.agg vs.toArray)).run P w = .ok () (w.setRow g (splice cur off vs)) := by
  have hst := run_storeCells_at P g off t vs 0 cur w hb (by simpa using hfit) h1
  simp only [Nat.add_zero] at hst
  simp [storeVar, hT.size_, Value.cells, hst, splice]

theorem Blk.setRow {g : Nat} {t : TypeId} {cur : Array Value} (hb : Blk w g t cur) (cs : Array Value) : Blk (w.setRow g cs) g t cs := setRow_heap w g cur cs t _ hb
theorem grownBy_setRow (w : World) (g : Nat) (cs : Array Value) : w.grownBy (w.setRow g cs) (some g) :=
  ⟨rfl, rfl, rfl, by simp, fun k _ hk => setRow_other w g k _ (fun e => hk (by rw [e]))⟩

theorem wp_store_agg (T : TypeId) (p x : Operand) (ho : o.op = .store T p x) (g off : Nat) (hp : a.eval p = .pointer (some ⟨g, off, none⟩)) (vs : List Value) (hx : a.eval x = .agg vs.toArray) (hT : AggT P T vs.length)
    (t : TypeId) (cur : Array Value) (hb : Blk w g t cur) (hfit : off + vs.length ≤ cur.size) (h1 : ∀ v ∈ vs, v.oneCell' = true)
    (h : ∀ w', Blk w' g t (splice cur off vs) → w.grownBy w' (some g) → w'.heap.size = w.heap.size → K (a.put o.dst undef) w') : o.wp P a w K Q := by
  unfold Oper.wp execOp
  simp only [ho, hp, hx, Instr.storeAt, Instr.sureAddr, Sem.run_bind, Sem.run_pure, Result.andThen_ok, run_storeVar_agg g off vs hT cur hb hfit h1]
  exact h _ (hb.setRow _) (grownBy_setRow _ _ _) (by simp)

theorem wp_alloc_agg (T : TypeId) (ho : o.op = .alloc T) (z : Array Value) (hz : (P.info? T).bind (·.zero) = some (.agg z))
    (h : K (a.put o.dst (.pointer (some ⟨w.heap.size, 0, none⟩))) (w.alloc (.cells z T))) : o.wp P a w K Q := by
  unfold Oper.wp execOp
  cases hq : P.info? T with
  | none => simp [hq] at hz
  | some i =>
    have hs : i.zero = some (.agg z) := by simpa [hq] using hz
    simp only [ho]
    simp [Instr.alloc, zeroValue, typeInfo, hq, hs, newVar, newRow, Value.cells]
    exact h

/-- copy: as many as both have, laid over the destination's cells. -/
theorem run_copy_blk {t e ty : TypeId} (ht : P.underlying t = some (.slice e)) {size : Nat} (hs : (P.info? e).map (·.size) = some size)
    {g off dl dc : Nat} {tb : TypeId} {cur : Array Value} (hb : Blk w g tb cur) {B : Nat} {A : Option Addr} {m c : Nat} {news : List Value} (hr : Sl w B size A m c news)
    (hfit : off + Nat.min m dl * size ≤ cur.size) (h1 : ∀ u ∈ news, u.oneCell' = true) :
    (Builtin.copy_ #[t, t] ty #[.slice (some ⟨g, off, none⟩) dl dc, .slice A m c]).run P w = .ok (goInt (Nat.min m dl)) (w.setRow g (splice cur off (news.take (Nat.min m dl * size)))) := by
  cases hq : P.info? e with
  | none => simp [hq] at hs
  | some i =>
    have hi : i.size = size := by simpa [hq] using hs
    subst hi
    have hle : Nat.min m dl ≤ m := Nat.min_le_left _ _
    have hlen : (news.take (Nat.min m dl * i.size)).length = Nat.min m dl * i.size := by rw [List.length_take, hr.1, Nat.min_eq_left (Nat.mul_le_mul_right _ hle)]
    have hsl : Sl w B i.size A (Nat.min m dl) c (news.take (Nat.min m dl * i.size)) :=
      ⟨hlen, Nat.le_trans hle hr.2.1, hr.2.2.1, fun hc => by
        obtain ⟨b, o, e1, e2, hj⟩ := hr.2.2.2 hc
        exact ⟨b, o, e1, e2, fun j u hu => hj j u (by rw [List.getElem?_take] at hu; split at hu; exact hu; cases hu)⟩⟩
    have hf := run_firstCells_sl (P := P) hsl w (fun _ => rfl)
    have hf' : (Builtin.firstCells i.size (Nat.min m dl) (.slice A m c)).run P w = .ok (news.take (Nat.min m dl * i.size)).toArray w := by
      cases A <;> exact hf
    have hst := run_storeCells_at P g off tb (news.take (Nat.min m dl * i.size)) 0 cur w hb (by rw [hlen]; simpa using hfit) (fun v hv => h1 v (List.mem_of_mem_take hv))
    simp only [Nat.add_zero] at hst
    simp [Builtin.copy_, run_underlying ht, sizeOf, typeInfo, hq, Builtin.lenOf, hf', hst, splice]

theorem wp_copy_blk (d x : Operand) (t : TypeId) (ho : o.op = .call { callee := .builtin .copy, args := #[d, x], argTypes := #[t, t] })
    {e : TypeId} (ht : P.underlying t = some (.slice e)) {size : Nat} (hs : (P.info? e).map (·.size) = some size)
    {g off dl dc : Nat} (hd : a.eval d = .slice (some ⟨g, off, none⟩) dl dc) {tb : TypeId} {cur : Array Value} (hb : Blk w g tb cur)
    {B : Nat} {A : Option Addr} {m c : Nat} {news : List Value} (hx : a.eval x = .slice A m c) (hr : Sl w B size A m c news)
    (hfit : off + Nat.min m dl * size ≤ cur.size) (h1 : ∀ u ∈ news, u.oneCell' = true)
    (h : ∀ w', Blk w' g tb (splice cur off (news.take (Nat.min m dl * size))) → w.grownBy w' (some g) → w'.heap.size = w.heap.size → K (a.put o.dst (goInt (Nat.min m dl))) w') : o.wp P a w K Q := by
  have hrun := run_copy_blk (P := P) (ty := o.type) (dc := dc) (dl := dl) ht hs hb hr hfit h1
  unfold Oper.wp execOp
  simp only [ho, resolve, invoke, builtin, Sem.run_bind, Sem.run_pure, Result.andThen_ok, List.map_toArray, List.map_cons, List.map_nil, hd, hx, hrun]
  exact h _ (hb.setRow _) (grownBy_setRow _ _ _) (by simp)
end

section
variable {P : Program} {ops : Array Oper} {rest : List Oper} {o : Oper} {a : Act} {w : World} {Q : Exit → Act → World → Prop}
theorem wpList_build (hw : Region.wanted o (yielded ops a.tmps) = true) (T : TypeId) (parts : Array (Nat × Operand)) (ho : o.op = .build T parts) (vs : Array (Nat × Value)) (hp : (parts.map fun (i, x) => (i, a.eval x)) = vs) (v : Value)
    (hr : (Instr.build T vs).run P w = .ok v w) (h : wpList P ops Q rest (a.put o.dst v) w) : wpList P ops Q (o :: rest) a w := by
  refine BigFrame.wpList_want hw fun _ hK => ?_
  unfold Oper.wp execOp
  simp only [ho, hp, Sem.run_bind, hr, Result.andThen_ok, Sem.run_pure]
  exact hK _ _ h
theorem wpList_load_agg (hw : Region.wanted o (yielded ops a.tmps) = true) (T : TypeId) (x : Operand) (ho : o.op = .load T x) (g off : Nat) (hx : a.eval x = .pointer (some ⟨g, off, none⟩)) (vs : Array Value) {n : Nat} (hT : AggT P T n) (hn : vs.size = n)
    (hc : ∀ j v, vs[j]? = some v → w.cell? ⟨g, off + j, none⟩ = some v) (h : wpList P ops Q rest (a.put o.dst (.agg vs)) w) : wpList P ops Q (o :: rest) a w :=
  BigFrame.wpList_want hw fun _ hK => wp_load_agg T x ho g off hx vs (hn ▸ hT) hc (hK _ _ h)
theorem wpList_load_whole (hw : Region.wanted o (yielded ops a.tmps) = true) (T : TypeId) (x : Operand) (ho : o.op = .load T x) (g : Nat) (hx : a.eval x = .pointer (some ⟨g, 0, none⟩)) (vs : Array Value) {n : Nat} (hT : AggT P T n) (hn : vs.size = n)
    (t : TypeId) (hb : Blk w g t vs) (h : wpList P ops Q rest (a.put o.dst (.agg vs)) w) : wpList P ops Q (o :: rest) a w :=
  wpList_load_agg hw T x ho g 0 hx vs hT hn (fun j v hv => by rw [Nat.zero_add, hb.cell]; exact hv) h
theorem wpList_store_agg (hw : Region.wanted o (yielded ops a.tmps) = true) (T : TypeId) (p x : Operand) (ho : o.op = .store T p x) (g off : Nat) (hp : a.eval p = .pointer (some ⟨g, off, none⟩)) (vs : List Value) (hx : a.eval x = .agg vs.toArray) {n : Nat} (hT : AggT P T n) (hn : vs.length = n)
    (t : TypeId) (cur : Array Value) (hb : Blk w g t cur) (hfit : off + vs.length ≤ cur.size) (h1 : ∀ v ∈ vs, v.oneCell' = true)
    (h : ∀ w', Blk w' g t (splice cur off vs) → w.grownBy w' (some g) → w'.heap.size = w.heap.size → wpList P ops Q rest (a.put o.dst undef) w') : wpList P ops Q (o :: rest) a w :=
  BigFrame.wpList_want hw fun _ hK => wp_store_agg T p x ho g off hp vs hx (hn ▸ hT) t cur hb hfit h1 fun w' h1 h2 h3 => hK _ _ (h w' h1 h2 h3)
theorem wpList_alloc_agg (hw : Region.wanted o (yielded ops a.tmps) = true) (T : TypeId) (ho : o.op = .alloc T) (z : Array Value) (hz : (P.info? T).bind (·.zero) = some (.agg z))
    (h : wpList P ops Q rest (a.put o.dst (.pointer (some ⟨w.heap.size, 0, none⟩))) (w.alloc (.cells z T))) : wpList P ops Q (o :: rest) a w :=
  BigFrame.wpList_want hw fun _ hK => wp_alloc_agg T ho z hz (hK _ _ h)
theorem wpList_copy_blk (hw : Region.wanted o (yielded ops a.tmps) = true) (d x : Operand) (t : TypeId) (ho : o.op = .call { callee := .builtin .copy, args := #[d, x], argTypes := #[t, t] })
    {e : TypeId} (ht : P.underlying t = some (.slice e)) {size : Nat} (hs : (P.info? e).map (·.size) = some size)
    {g off dl dc : Nat} (hd : a.eval d = .slice (some ⟨g, off, none⟩) dl dc) {tb : TypeId} {cur : Array Value} (hb : Blk w g tb cur)
    {B : Nat} {A : Option Addr} {m c : Nat} {news : List Value} (hx : a.eval x = .slice A m c) (hr : Sl w B size A m c news)
    (hfit : off + Nat.min m dl * size ≤ cur.size) (h1 : ∀ u ∈ news, u.oneCell' = true)
    (h : ∀ w', Blk w' g tb (splice cur off (news.take (Nat.min m dl * size))) → w.grownBy w' (some g) → w'.heap.size = w.heap.size → wpList P ops Q rest (a.put o.dst (goInt (Nat.min m dl))) w') : wpList P ops Q (o :: rest) a w :=
  BigFrame.wpList_want hw fun _ hK => wp_copy_blk d x t ho ht hs hd hb hx hr hfit h1 fun w' h1 h2 h3 => hK _ _ (h w' h1 h2 h3)
theorem results_cell_tmp {n : Nat} {fn : Func} {p t : Tmp} {ty : TypeId} (hr : fn.results = #[.cell p ty, .tmp t]) (tmps : Array Value) (g : Nat) (tb : TypeId) (cs : Array Value) (hT : AggT P ty n) (hn : cs.size = n)
    (hp : tmps.getD p undef = .pointer (some ⟨g, 0, none⟩)) (hb : Blk w g tb cs) : (results fn tmps).run P w = .ok (.tuple #[.agg cs, tmps.getD t undef]) w := by
  have hl := run_loadVar_agg (P := P) (w := w) g 0 cs (hn ▸ hT) (fun j v hv => by rw [Nat.zero_add, hb.cell]; exact hv)
  have hp' : tmps[p]?.getD undef = .pointer (some ⟨g, 0, none⟩) := by simpa using hp
  simp [results, hr, hp', asAddr, hl]
theorem results_cell_one {n : Nat} {fn : Func} {p : Tmp} {ty : TypeId} (hr : fn.results = #[.cell p ty]) (tmps : Array Value) (g : Nat) (tb : TypeId) (cs : Array Value) (hT : AggT P ty n) (hn : cs.size = n)
    (hp : tmps.getD p undef = .pointer (some ⟨g, 0, none⟩)) (hb : Blk w g tb cs) : (results fn tmps).run P w = .ok (.agg cs) w := by
  have hl := run_loadVar_agg (P := P) (w := w) g 0 cs (hn ▸ hT) (fun j v hv => by rw [Nat.zero_add, hb.cell]; exact hv)
  have hp' : tmps[p]?.getD undef = .pointer (some ⟨g, 0, none⟩) := by simpa using hp
  simp [results, hr, hp', asAddr, hl]
/-- A whole array of bytes stored over a block of as many. -/
theorem wpList_store8 (hw : Region.wanted o (yielded ops a.tmps) = true) (T : TypeId) (p x : Operand) (ho : o.op = .store T p x) (g : Nat) (hp : a.eval p = .pointer (some ⟨g, 0, none⟩)) (bs : List UInt8) (hx : a.eval x = .agg (arr8 bs)) {n : Nat} (hT : AggT P T n) (hn : bs.length = n)
    (t : TypeId) (cur : Array Value) (hb : Blk w g t cur) (hc : cur.size = n)
    (h : ∀ w', Blk w' g t (arr8 bs) → w.grownBy w' (some g) → w'.heap.size = w.heap.size → wpList P ops Q rest (a.put o.dst undef) w') : wpList P ops Q (o :: rest) a w :=
  wpList_store_agg hw T p x ho g 0 hp (bs.map b8) hx hT (by simpa using hn) t cur hb (by rw [List.length_map, hn, hc]; omega) (b8_one _) fun w' h1 h2 h3 =>
    h w' (by rw [splice_whole cur _ (by rw [List.length_map, hn, hc])] at h1; exact h1) h2 h3
theorem wpList_store32 (hw : Region.wanted o (yielded ops a.tmps) = true) (T : TypeId) (p x : Operand) (ho : o.op = .store T p x) (g : Nat) (hp : a.eval p = .pointer (some ⟨g, 0, none⟩)) (ws : List UInt32) (hx : a.eval x = .agg (arr32 ws)) {n : Nat} (hT : AggT P T n) (hn : ws.length = n)
    (t : TypeId) (cur : Array Value) (hb : Blk w g t cur) (hc : cur.size = n)
    (h : ∀ w', Blk w' g t (arr32 ws) → w.grownBy w' (some g) → w'.heap.size = w.heap.size → wpList P ops Q rest (a.put o.dst undef) w') : wpList P ops Q (o :: rest) a w :=
  wpList_store_agg hw T p x ho g 0 hp (ws.map b32) hx hT (by simpa using hn) t cur hb (by rw [List.length_map, hn, hc]; omega) (fun u hu => by obtain ⟨x, _, rfl⟩ := List.mem_map.1 hu; rfl) fun w' h1 h2 h3 =>
    h w' (by rw [splice_whole cur _ (by rw [List.length_map, hn, hc])] at h1; exact h1) h2 h3
end

/-! ### '==' of arrays of integers -/
theorem all_range_eq {α : Type} [BEq α] [LawfulBEq α] (d : α) : ∀ (xs ys : List α), xs.length = ys.length → (List.range xs.length).all (fun i => xs.getD i d == ys.getD i d) = (xs == ys)
  | [], [], _ => rfl
  | x :: xs, y :: ys, h => by
    have ih := all_range_eq d xs ys (by simpa using h)
    rw [List.length_cons, List.range_succ_eq_map, List.all_cons, List.all_map]
    simp only [List.getD_cons_zero, Function.comp_def, List.getD_cons_succ, ih]
    simp [List.cons_beq_cons]
  | [], _ :: _, h => by simp at h
  | _ :: _, [], h => by simp at h

theorem run_equalIn_arr {P : Program} (w : World) {α : Type} [BEq α] [LawfulBEq α] (z : α) (f : α → Int) (hf : ∀ x y, (f x == f y) = (x == y)) (k : IntKind) (d : Nat) (t e : TypeId) (n : Nat)
    (ht : P.underlying t = some (.array n e)) (he : P.underlying e = some (.int k)) (hsz : ∀ w, (sizeOf e).run P w = .ok 1 w)
    (xs ys : List α) (hx : xs.length = n) (hy : ys.length = n) :
    (Op.equalIn (d + 2) t (.agg (xs.map fun x => Value.int k (f x)).toArray) (.agg (ys.map fun x => Value.int k (f x)).toArray)).run P w = .ok (xs == ys) w := by
  rw [← all_range_eq z xs ys (hx.trans hy.symm), hx, List.range_eq_range', Op.equalIn]
  simp only [Sem.run_bind, run_underlying ht, Result.andThen_ok, hsz, Std.Legacy.Range.forIn_eq_forIn_range', Std.Legacy.Range.size, Nat.sub_zero, Nat.add_sub_cancel, Nat.div_one]
  have hl : ∀ i ∈ List.range' 0 n 1, i < n := fun i hi => by simpa using (List.mem_range'_1.1 hi).2
  generalize List.range' 0 n 1 = l at hl ⊢
  induction l with
  | nil => simp
  | cons i l ih =>
    have hi : i < n := hl i (by simp)
    have px : (part e (xs.map fun x => Value.int k (f x)).toArray (i * 1)).run P w = .ok (.int k (f (xs.getD i z))) w := by
      simp [part, isAgg, run_underlying he, List.getD, List.getElem?_eq_getElem (show i < xs.length by omega)]
    have py : (part e (ys.map fun x => Value.int k (f x)).toArray (i * 1)).run P w = .ok (.int k (f (ys.getD i z))) w := by
      simp [part, isAgg, run_underlying he, List.getD, List.getElem?_eq_getElem (show i < ys.length by omega)]
    have pe : (Op.equalIn (d + 1) e (.int k (f (xs.getD i z))) (.int k (f (ys.getD i z)))).run P w = .ok (xs.getD i z == ys.getD i z) w := by
      rw [run_equalIn_int w d e k k _ _ he, hf]
    simp only [List.forIn_cons, Sem.run_bind, px, py, pe, Result.andThen_ok, List.all_cons]
    cases hb : (xs.getD i z == ys.getD i z)
    · simp
    · simp only [Bool.not_true, Bool.false_eq_true, if_false, Sem.run_pure, Result.andThen_ok, Bool.true_and]
      exact ih fun j hj => hl j (by simp [hj])

theorem run_equalIn_arr8 {P : Program} (w : World) (t e : TypeId) (n : Nat) (ht : P.underlying t = some (.array n e)) (he : P.underlying e = some (.int .u8)) (hsz : ∀ w, (sizeOf e).run P w = .ok 1 w)
    (xs ys : List UInt8) (hx : xs.length = n) (hy : ys.length = n) :
    (Op.equalIn 10000 t (.agg (arr8 xs)) (.agg (arr8 ys))).run P w = .ok (xs == ys) w :=
  run_equalIn_arr w 0 (fun x : UInt8 => (x.toNat : Int)) (fun x y => by rw [Bool.eq_iff_iff]; simp [← UInt8.toNat_inj]; omega) .u8 9998 t e n ht he hsz xs ys hx hy
theorem run_equalIn_arr32 {P : Program} (w : World) (t e : TypeId) (n : Nat) (ht : P.underlying t = some (.array n e)) (he : P.underlying e = some (.int .u32)) (hsz : ∀ w, (sizeOf e).run P w = .ok 1 w)
    (xs ys : List UInt32) (hx : xs.length = n) (hy : ys.length = n) :
    (Op.equalIn 10000 t (.agg (arr32 xs)) (.agg (arr32 ys))).run P w = .ok (xs == ys) w :=
  run_equalIn_arr w 0 (fun x : UInt32 => (x.toNat : Int)) (fun x y => by rw [Bool.eq_iff_iff]; simp [← UInt32.toNat_inj]; omega) .u32 9998 t e n ht he hsz xs ys hx hy

/-- So many zero bytes. -/
def z8 (n : Nat) : List UInt8 := List.replicate n 0
theorem len_z8 (n : Nat) : (z8 n).length = n := by simp [z8]
theorem z8_drop (n k : Nat) : (z8 n).drop k = z8 (n - k) := by simp [z8]
theorem z8_take (n k : Nat) : (z8 n).take k = z8 (min k n) := by simp [z8]
theorem arr8_one (bs : List UInt8) : ∀ v ∈ bs.map b8, v.oneCell' = true := b8_one bs
theorem splice8 (xs ys : List UInt8) (off : Nat) : splice (arr8 xs) off (ys.map b8) = arr8 (xs.take off ++ ys ++ xs.drop (off + ys.length)) := by
  simp [splice, arr8]
theorem splice32 (xs ys : List UInt32) (off : Nat) : splice (arr32 xs) off (ys.map b32) = arr32 (xs.take off ++ ys ++ xs.drop (off + ys.length)) := by
  simp [splice, arr32]
end Go.Proofs.Ytbphoilfiahnpaa
