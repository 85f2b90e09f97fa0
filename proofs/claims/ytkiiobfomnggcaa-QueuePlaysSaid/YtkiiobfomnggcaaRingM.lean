/-
  queue: a ring of places, and what it reads as.
-/
import Derived.Test.YtkiiobfomnggcaaBase
namespace Go.Proofs.Ytkiiobfomnggcaa
open Go.RowKit
set_option linter.unusedVariables false
set_option linter.unusedSimpArgs false
set_option maxRecDepth 100000

theorem wpList_store_whole {P : Program} {ops : Array Oper} {rest : List Oper} {o : Oper} {a : Act} {Q : Exit → Act → World → Prop} {w : World} (hw : Region.wanted o (yielded ops a.tmps) = true) (T : TypeId) (p x : Operand) (ho : o.op = .store T p x) (g : Nat) (hp : a.eval p = .pointer (some ⟨g, 0, none⟩)) (vs : List Value) (hx : a.eval x = .agg vs.toArray) {n : Nat} (hT : AggT P T n) (hn : vs.length = n)
    (t : TypeId) (cur : Array Value) (hb : Blk w g t cur) (hc : cur.size = n) (h1 : ∀ v ∈ vs, v.oneCell' = true)
    (h : ∀ w', Blk w' g t vs.toArray → w.grownBy w' (some g) → w'.heap.size = w.heap.size → wpList P ops Q rest (a.put o.dst undef) w') : wpList P ops Q (o :: rest) a w :=
  wpList_store_agg hw T p x ho g 0 hp vs hx hT hn t cur hb (by rw [hn, hc]; omega) h1 fun w' h1 h2 h3 => h w' (by rw [splice_whole cur _ (by rw [hn, hc])] at h1; exact h1) h2 h3
/-! ## Rows of thirteen cells -/
def rows13 (rows : List (List Value)) : Prop := ∀ r ∈ rows, r.length = 13 ∧ ∀ v ∈ r, v.oneCell' = true
theorem rows13.len {rows : List (List Value)} (h : rows13 rows) : rows.flatten.length = 13 * rows.length := by
  induction rows with
  | nil => rfl
  | cons r rows ih =>
    rw [List.flatten_cons, List.length_append, ih (fun x hx => h x (List.mem_cons_of_mem _ hx)), (h r (List.mem_cons_self ..)).1, List.length_cons]
    omega
theorem rows13.take {rows : List (List Value)} (h : rows13 rows) : ∀ j, rows.flatten.take (13 * j) = (rows.take j).flatten := by
  induction rows with
  | nil => intro j; simp
  | cons r rows ih =>
    intro j
    cases j with
    | zero => simp
    | succ j =>
      have hr := (h r (List.mem_cons_self ..)).1
      rw [List.flatten_cons, List.take_succ_cons, List.flatten_cons, List.take_append, List.take_of_length_le (by omega), hr, show 13 * (j + 1) - 13 = 13 * j by omega, ih (fun x hx => h x (List.mem_cons_of_mem _ hx))]
theorem rows13.drop {rows : List (List Value)} (h : rows13 rows) : ∀ j, rows.flatten.drop (13 * j) = (rows.drop j).flatten := by
  induction rows with
  | nil => intro j; simp
  | cons r rows ih =>
    intro j
    cases j with
    | zero => simp
    | succ j =>
      have hr := (h r (List.mem_cons_self ..)).1
      rw [List.flatten_cons, List.drop_succ_cons, List.drop_append, List.drop_of_length_le (by omega), hr, show 13 * (j + 1) - 13 = 13 * j by omega, ih (fun x hx => h x (List.mem_cons_of_mem _ hx)), List.nil_append]
theorem rows13.spl {rows : List (List Value)} (h : rows13 rows) {j : Nat} (hj : j < rows.length) {r : List Value} (hr : r.length = 13) : splice rows.flatten.toArray (13 * j) r = (rows.set j r).flatten.toArray := by
  unfold splice
  rw [hr, show 13 * j + 13 = 13 * (j + 1) by omega]
  simp only [h.take, h.drop]
  rw [List.set_eq_take_append_cons_drop, if_pos hj]
  simp
theorem rows13.get {rows : List (List Value)} (h : rows13 rows) {j : Nat} {r : List Value} (hj : rows[j]? = some r) {t : Nat} {v : Value} (ht : r[t]? = some v) : rows.flatten.toArray[13 * j + t]? = some v := by
  have hl : j < rows.length := (List.getElem?_eq_some_iff.1 hj).1
  have hd : rows.flatten.drop (13 * j) = r ++ (rows.drop (j + 1)).flatten := by
    rw [h.drop, List.drop_eq_getElem_cons hl, List.flatten_cons]
    rw [List.getElem?_eq_getElem hl, Option.some.injEq] at hj
    rw [hj]
  have e : (rows.flatten.drop (13 * j))[t]? = some v := by
    rw [hd, List.getElem?_append_left (List.getElem?_eq_some_iff.1 ht).1]
    exact ht
  rw [List.getElem?_drop] at e
  simpa using e
theorem rows13.set {rows : List (List Value)} (h : rows13 rows) (j : Nat) {r : List Value} (hr : r.length = 13 ∧ ∀ v ∈ r, v.oneCell' = true) : rows13 (rows.set j r) := fun x hx => by
  rcases List.mem_or_eq_of_mem_set hx with hx | rfl
  · exact h x hx
  · exact hr

/-! ## What waits -/
def view (n f k : Nat) (rows : List (List Value)) : List (List Value) := (List.range k).map fun i => (rows[(f + i) % n]?).getD []
theorem len_view (n f k : Nat) (rows : List (List Value)) : (view n f k rows).length = k := by simp [view]
theorem view_push {n f k : Nat} {rows : List (List Value)} (hl : rows.length = n) (hk : k < n) (r : List Value) : view n f (k + 1) (rows.set ((f + k) % n) r) = view n f k rows ++ [r] := by
  have hn : (f + k) % n < n := Nat.mod_lt _ (by omega)
  unfold view
  rw [List.range_succ, List.map_append]
  congr 1
  · refine List.map_congr_left fun i hi => ?_
    have hi := List.mem_range.1 hi
    rw [List.getElem?_set_ne]
    intro e
    have h1 := Nat.mod_add_div (f + k) n
    have h2 := Nat.mod_add_div (f + i) n
    rw [e] at h1
    generalize (f + k) / n = a at h1
    generalize (f + i) / n = b at h2
    have h3 : k - i = n * a - n * b := by omega
    rw [← Nat.mul_sub] at h3
    rcases Nat.eq_zero_or_pos (a - b) with h0 | h0
    · rw [h0, Nat.mul_zero] at h3; omega
    · have := Nat.le_mul_of_pos_right n h0; omega
  · simp only [List.map_cons, List.map_nil]
    rw [List.getElem?_set_self (by omega)]
    rfl
theorem view_pop {n f k : Nat} {rows : List (List Value)} (hl : rows.length = n) (hf : f < n) (hk : 0 < k) {r : List Value} (hr : rows[f]? = some r) : view n f k rows = r :: view n ((f + 1) % n) (k - 1) rows := by
  obtain ⟨k, rfl⟩ : ∃ j, k = j + 1 := ⟨k - 1, by omega⟩
  unfold view
  rw [List.range_succ_eq_map, List.map_cons, List.map_map]
  congr 1
  · rw [Nat.add_zero, Nat.mod_eq_of_lt hf, hr]; rfl
  · rw [Nat.add_sub_cancel]
    refine List.map_congr_left fun i _ => ?_
    simp only [Function.comp]
    rw [Nat.mod_add_mod, show f + 1 + i = f + (i + 1) by omega]

/-- A ring of n places: the first is place f, and k are used. -/
structure Rg (w : World) (gq gs n f k : Nat) (rows : List (List Value)) : Prop where
  bq : Blk w gq 83 #[.slice (some ⟨gs, 0, none⟩) n n, .int .i64 (f : Int), .int .i64 (k : Int)]
  bs : Blk w gs 48 rows.flatten.toArray
  len : rows.length = n
  row : rows13 rows
  fl : f < n
  kl : k ≤ n
  le8 : n ≤ 8
section
variable {w w' : World} {gq gs n f k : Nat} {rows : List (List Value)}
theorem Rg.below (h : Rg w gq gs n f k rows) (hb : Below w.heap.size w w') : Rg w' gq gs n f k rows :=
  ⟨h.bq.below hb h.bq.lt, h.bs.below hb h.bs.lt, h.len, h.row, h.fl, h.kl, h.le8⟩
theorem Rg.ne (h : Rg w gq gs n f k rows) : gq ≠ gs := fun e => by
  have h1 := h.bq
  have h2 := h.bs
  rw [Blk] at h1 h2
  rw [e, h2] at h1
  simp at h1
theorem Rg.c0 (h : Rg w gq gs n f k rows) : w.cell? ⟨gq, 0, none⟩ = some (.slice (some ⟨gs, 0, none⟩) n n) := by rw [h.bq.cell]; rfl
theorem Rg.c1 (h : Rg w gq gs n f k rows) : w.cell? ⟨gq, 1, none⟩ = some (.int .i64 (f : Int)) := by rw [h.bq.cell]; rfl
theorem Rg.c2 (h : Rg w gq gs n f k rows) : w.cell? ⟨gq, 2, none⟩ = some (.int .i64 (k : Int)) := by rw [h.bq.cell]; rfl
end
/-! ## What stays -/
/-- All blocks but these stay. -/
def Fr (gs : List Nat) (w w' : World) : Prop := w.heap.size ≤ w'.heap.size ∧ ∀ k, k < w.heap.size → k ∉ gs → w'.heap[k]? = w.heap[k]?
theorem Fr.below {gs : List Nat} {w w' : World} (h : Below w.heap.size w w') : Fr gs w w' := ⟨h.size, fun k hk _ => h.block k hk⟩
theorem Fr.trans {gs : List Nat} {w w' w2 : World} (h : Fr gs w w') (h' : Fr gs w' w2) : Fr gs w w2 := ⟨Nat.le_trans h.1 h'.1, fun k hk hn => (h'.2 k (Nat.lt_of_lt_of_le hk h.1) hn).trans (h.2 k hk hn)⟩
theorem Fr.grown {gs : List Nat} {w w' w2 : World} {g : Nat} (h : Fr gs w w') (hg : w'.grownBy w2 (some g)) (ho : g ∈ gs ∨ w.heap.size ≤ g) : Fr gs w w2 :=
  ⟨Nat.le_trans h.1 hg.size, fun k hk hn => (hg.block k (Nat.lt_of_lt_of_le hk h.1) (fun e => by
    cases e
    rcases ho with ho | ho
    · exact hn ho
    · omega)).trans (h.2 k hk hn)⟩
theorem Fr.more {gs gs' : List Nat} {w w' : World} (h : Fr gs w w') (hs : ∀ g ∈ gs, g ∈ gs') : Fr gs' w w' := ⟨h.1, fun k hk hn => h.2 k hk fun e => hn (hs _ e)⟩
theorem Fr.blk {gs : List Nat} {w w' : World} (h : Fr gs w w') {g : Nat} {t : TypeId} {cs : Array Value} (hb : Blk w g t cs) (hn : g ∉ gs) : Blk w' g t cs := (h.2 g hb.lt hn).trans hb
/-- All blocks but those of a queue stay; marks of deferred calls stay. -/
def Ty (w w' : World) : Prop := (w.heap.size ≤ w'.heap.size ∧ ∀ (g : Nat) (l : Option (List Deferred)), w.heap[g]? = some (Obj.deferred l) → w'.heap[g]? = some (Obj.deferred l)) ∧ ∀ g t cs, Blk w g t cs → t ≠ 83 → t ≠ 48 → Blk w' g t cs
theorem Ty.trans {w w' w2 : World} (h : Ty w w') (h' : Ty w' w2) : Ty w w2 := ⟨⟨Nat.le_trans h.1.1 h'.1.1, fun g l e => h'.1.2 g l (h.1.2 g l e)⟩, fun g t cs hb h1 h2 => h'.2 g t cs (h.2 g t cs hb h1 h2) h1 h2⟩
theorem Ty.below {w w' : World} (h : Below w.heap.size w w') : Ty w w' := ⟨⟨h.size, fun g l e => (h.block g (Array.getElem?_eq_some_iff.1 e).1).trans e⟩, fun g t cs hb _ _ => hb.below h hb.lt⟩
theorem Ty.of {w w' : World} {gq gs n f k : Nat} {rows : List (List Value)} (h : Rg w gq gs n f k rows) (hf : Fr [gq, gs] w w') : Ty w w' := ⟨⟨hf.1, fun g l e => (hf.2 g (Array.getElem?_eq_some_iff.1 e).1 (fun hm => by
  simp only [List.mem_cons, List.not_mem_nil, or_false] at hm
  rcases hm with rfl | rfl
  · have := h.bq
    rw [Blk, e] at this
    cases this
  · have := h.bs
    rw [Blk, e] at this
    cases this)).trans e⟩, fun g t cs hb h1 h2 => hf.blk hb (fun e => by
  simp only [List.mem_cons, List.not_mem_nil, or_false] at e
  rcases e with rfl | rfl
  · have := h.bq
    rw [Blk] at this hb
    rw [this] at hb
    simp only [Option.some.injEq, Obj.cells.injEq] at hb
    exact h1 hb.2.1.symm
  · have := h.bs
    rw [Blk] at this hb
    rw [this] at hb
    simp only [Option.some.injEq, Obj.cells.injEq] at hb
    exact h2 hb.2.1.symm)⟩
theorem aggW : AggT Try.prog 48 13 := ⟨⟨_, Try.underlying48, rfl⟩, by kernel_rfl⟩
theorem sizeW (W : World) : (sizeOf 48).run Try.prog W = .ok 13 W := by kernel_rfl

set_option maxHeartbeats 4000000 in
theorem at_c {w : World} {gq gs n f k : Nat} {rows : List (List Value)} (h : Rg w gq gs n f k rows) (i : Nat) (hi : i ≤ 8) (j : Nat) (hj : j = (f + i) % n) :
    Calls Try.prog 38 #[.pointer (some ⟨gq, 0, none⟩), .int .i64 (i : Int)] w fun e w' => e = .returned (.pointer (some ⟨gs, 13 * j, none⟩)) ∧ Below w.heap.size w w' := by
  have d0 := h.c0
  have hgq0 := h.bq.lt
  have d1 := h.c1
  have hfl := h.fl
  have h8 := h.le8
  have hjn : j < n := by rw [hj]; exact Nat.mod_lt _ (by omega)
  have htm : ((f : Int) + (i : Int)).tmod (n : Int) = (j : Int) := by
    rw [Int.tmod_eq_emod_of_nonneg (by omega), hj]; rfl
  have hed : ((f : Int) + (i : Int)) % (n : Int) = (j : Int) := by rw [hj]; rfl
  have hn0 : ¬ (n : Int) = 0 := by omega
  have hjb : (j : Int) < (n : Int) := by omega
  have hj0 : (0 : Int) ≤ (j : Int) := by omega
  clear h hj
  have HD0 := Lib.hid d0
  have HD1 := Lib.hid d1
  have hgq : gq < w.heap.size := hgq0
  clear d0 d1
  go_enter Try.func38, Try.ntmps38
  go_wp2_with fail
  refine wp_region_rel (fun W W' => Below W.heap.size W W') (fun W => Below w.heap.size w W)
    [Det (.pointer (some ⟨gq, 0, none⟩)), Det (.pointer (some ⟨gq, 0, none⟩)), Det (.pointer (some ⟨gq, 0, none⟩)), Det (.slice (some ⟨gs, 0, none⟩) n n), Det (.pointer (some ⟨gq, 0, none⟩)), Det (.pointer (some ⟨gq, 0, none⟩)), Det (.pointer (some ⟨gq, 1, none⟩)), Det (.int .i64 (f : Int)), Det (.int .i64 (i : Int)), Det (.int .i64 ((f : Int) + (i : Int))), Det (.pointer (some ⟨gq, 0, none⟩)), Det (.pointer (some ⟨gq, 0, none⟩)), Det (.pointer (some ⟨gq, 0, none⟩)), Det (.slice (some ⟨gs, 0, none⟩) n n), Det (.int .i64 (n : Int)), Det (.int .i64 (j : Int)), Det (.pointer (some ⟨gs, j * 13, none⟩)), Det (.pointer (some ⟨gs, j * 13, none⟩))]
    [[], [(0, some 5)], [(1, some 6)], [(2, some 7)], [], [(4, some 9)], [(5, some 10)], [(6, some 11)], [], [(7, some 12), (8, some 13)], [], [(10, some 15)], [(11, some 16)], [(12, some 17)], [(13, some 18)], [(9, some 14), (14, some 19)], [(3, some 8), (15, some 20)], [(16, some 21)]]
    [[], [0], [0, 1], [0, 1, 2], [], [4], [4, 5], [4, 5, 6], [], [4, 5, 6, 7, 8], [], [10], [10, 11], [10, 11, 12], [10, 11, 12, 13], [4, 5, 6, 7, 8, 9, 10, 11, 12, 13, 14], [0, 1, 2, 3, 4, 5, 6, 7, 8, 9, 10, 11, 12, 13, 14, 15], [0, 1, 2, 3, 4, 5, 6, 7, 8, 9, 10, 11, 12, 13, 14, 15, 16]]
    [(0, some 5), (1, some 6), (2, some 7), (3, some 8), (4, some 9), (5, some 10), (6, some 11), (7, some 12), (8, some 13), (9, some 14), (10, some 15), (11, some 16), (12, some 17), (13, some 18), (14, some 19), (15, some 20), (16, some 21), (17, some 4)] (by kernel_rfl) (by kernel_rfl) (fun W W' h1 h2 => h1.trans (h2.mono h1.size)) ((Below.refl _ _).drew) ?_ ?_ ?_
  · exact (AllMono.cons Det.later (AllMono.cons Det.later (AllMono.cons Det.later (AllMono.cons Det.later (AllMono.cons Det.later (AllMono.cons Det.later (AllMono.cons Det.later (AllMono.cons Det.later (AllMono.cons Det.later (AllMono.cons Det.later (AllMono.cons Det.later (AllMono.cons Det.later (AllMono.cons Det.later (AllMono.cons Det.later (AllMono.cons Det.later (AllMono.cons Det.later (AllMono.cons Det.later (AllMono.cons Det.later AllMono.nil))))))))))))))))))
  · refine AllOb.cons ?_ (AllOb.cons ?_ (AllOb.cons ?_ (AllOb.cons ?_ (AllOb.cons ?_ (AllOb.cons ?_ (AllOb.cons ?_ (AllOb.cons ?_ (AllOb.cons ?_ (AllOb.cons ?_ (AllOb.cons ?_ (AllOb.cons ?_ (AllOb.cons ?_ (AllOb.cons ?_ (AllOb.cons ?_ (AllOb.cons ?_ (AllOb.cons ?_ (AllOb.cons ?_ (AllOb.nil))))))))))))))))))
    · intro uF W hC' hU aF hF
      have hC : Below w.heap.size w W := hC'
      clear hC'
      simp only [puts] at hF
      subst hF
      go_wp2_with (fail)
      exact ⟨rfl, rfl, (Below.refl _ _), rfl⟩
    · intro uF W hC' hU aF hF
      have hC : Below w.heap.size w W := hC'
      clear hC'
      have h5 : (Det (.pointer (some ⟨gq, 0, none⟩))) (uF 0) W := hU.1
      clear hU
      simp only [puts, Act.put, List.setIfInBounds_toArray, List.set_cons_zero, List.set_cons_succ] at hF
      generalize uF 0 = x5 at h5 hF
      obtain rfl : x5 = (.pointer (some ⟨gq, 0, none⟩)) := h5
      subst hF
      go_wp2_with (fail)
      exact ⟨rfl, rfl, (Below.refl _ _), rfl⟩
    · intro uF W hC' hU aF hF
      have hC : Below w.heap.size w W := hC'
      clear hC'
      have h6 : (Det (.pointer (some ⟨gq, 0, none⟩))) (uF 1) W := hU.1
      clear hU
      simp only [puts, Act.put, List.setIfInBounds_toArray, List.set_cons_zero, List.set_cons_succ] at hF
      generalize uF 1 = x6 at h6 hF
      obtain rfl : x6 = (.pointer (some ⟨gq, 0, none⟩)) := h6
      subst hF
      go_wp2_with (fail)
      exact ⟨rfl, rfl, (Below.refl _ _), rfl⟩
    · intro uF W hC' hU aF hF
      have hC : Below w.heap.size w W := hC'
      clear hC'
      have h7 : (Det (.pointer (some ⟨gq, 0, none⟩))) (uF 2) W := hU.1
      clear hU
      simp only [puts, Act.put, List.setIfInBounds_toArray, List.set_cons_zero, List.set_cons_succ] at hF
      generalize uF 2 = x7 at h7 hF
      obtain rfl : x7 = (.pointer (some ⟨gq, 0, none⟩)) := h7
      subst hF
      have d0 : W.cell? ⟨gq, 0, none⟩ = some (.slice (some ⟨gs, 0, none⟩) n n) := (hC.cell hgq).trans HD0.out
      go_wp2_with (fail)
      exact ⟨rfl, rfl, (Below.refl _ _), rfl⟩
    · intro uF W hC' hU aF hF
      have hC : Below w.heap.size w W := hC'
      clear hC'
      simp only [puts] at hF
      subst hF
      go_wp2_with (fail)
      exact ⟨rfl, rfl, (Below.refl _ _), rfl⟩
    · intro uF W hC' hU aF hF
      have hC : Below w.heap.size w W := hC'
      clear hC'
      have h9 : (Det (.pointer (some ⟨gq, 0, none⟩))) (uF 4) W := hU.1
      clear hU
      simp only [puts, Act.put, List.setIfInBounds_toArray, List.set_cons_zero, List.set_cons_succ] at hF
      generalize uF 4 = x9 at h9 hF
      obtain rfl : x9 = (.pointer (some ⟨gq, 0, none⟩)) := h9
      subst hF
      go_wp2_with (fail)
      exact ⟨rfl, rfl, (Below.refl _ _), rfl⟩
    · intro uF W hC' hU aF hF
      have hC : Below w.heap.size w W := hC'
      clear hC'
      have h10 : (Det (.pointer (some ⟨gq, 0, none⟩))) (uF 5) W := hU.1
      clear hU
      simp only [puts, Act.put, List.setIfInBounds_toArray, List.set_cons_zero, List.set_cons_succ] at hF
      generalize uF 5 = x10 at h10 hF
      obtain rfl : x10 = (.pointer (some ⟨gq, 0, none⟩)) := h10
      subst hF
      go_wp2_with (fail)
      exact ⟨rfl, rfl, (Below.refl _ _), rfl⟩
    · intro uF W hC' hU aF hF
      have hC : Below w.heap.size w W := hC'
      clear hC'
      have h11 : (Det (.pointer (some ⟨gq, 1, none⟩))) (uF 6) W := hU.1
      clear hU
      simp only [puts, Act.put, List.setIfInBounds_toArray, List.set_cons_zero, List.set_cons_succ] at hF
      generalize uF 6 = x11 at h11 hF
      obtain rfl : x11 = (.pointer (some ⟨gq, 1, none⟩)) := h11
      subst hF
      have d1 : W.cell? ⟨gq, 1, none⟩ = some (.int .i64 (f : Int)) := (hC.cell hgq).trans HD1.out
      go_wp2_with (fail)
      exact ⟨rfl, rfl, (Below.refl _ _), rfl⟩
    · intro uF W hC' hU aF hF
      have hC : Below w.heap.size w W := hC'
      clear hC'
      simp only [puts] at hF
      subst hF
      go_wp2_with (fail)
      exact ⟨rfl, rfl, (Below.refl _ _), rfl⟩
    · intro uF W hC' hU aF hF
      have hC : Below w.heap.size w W := hC'
      clear hC'
      have h12 : (Det (.int .i64 (f : Int))) (uF 7) W := hU.1
      have h13 : (Det (.int .i64 (i : Int))) (uF 8) W := hU.2.1
      clear hU
      simp only [puts, Act.put, List.setIfInBounds_toArray, List.set_cons_zero, List.set_cons_succ] at hF
      generalize uF 7 = x12 at h12 hF
      generalize uF 8 = x13 at h13 hF
      obtain rfl : x12 = (.int .i64 (f : Int)) := h12
      obtain rfl : x13 = (.int .i64 (i : Int)) := h13
      subst hF
      go_wp2_with (fail)
      exact ⟨rfl, rfl, (Below.refl _ _), rfl⟩
    · intro uF W hC' hU aF hF
      have hC : Below w.heap.size w W := hC'
      clear hC'
      simp only [puts] at hF
      subst hF
      go_wp2_with (fail)
      exact ⟨rfl, rfl, (Below.refl _ _), rfl⟩
    · intro uF W hC' hU aF hF
      have hC : Below w.heap.size w W := hC'
      clear hC'
      have h15 : (Det (.pointer (some ⟨gq, 0, none⟩))) (uF 10) W := hU.1
      clear hU
      simp only [puts, Act.put, List.setIfInBounds_toArray, List.set_cons_zero, List.set_cons_succ] at hF
      generalize uF 10 = x15 at h15 hF
      obtain rfl : x15 = (.pointer (some ⟨gq, 0, none⟩)) := h15
      subst hF
      go_wp2_with (fail)
      exact ⟨rfl, rfl, (Below.refl _ _), rfl⟩
    · intro uF W hC' hU aF hF
      have hC : Below w.heap.size w W := hC'
      clear hC'
      have h16 : (Det (.pointer (some ⟨gq, 0, none⟩))) (uF 11) W := hU.1
      clear hU
      simp only [puts, Act.put, List.setIfInBounds_toArray, List.set_cons_zero, List.set_cons_succ] at hF
      generalize uF 11 = x16 at h16 hF
      obtain rfl : x16 = (.pointer (some ⟨gq, 0, none⟩)) := h16
      subst hF
      go_wp2_with (fail)
      exact ⟨rfl, rfl, (Below.refl _ _), rfl⟩
    · intro uF W hC' hU aF hF
      have hC : Below w.heap.size w W := hC'
      clear hC'
      have h17 : (Det (.pointer (some ⟨gq, 0, none⟩))) (uF 12) W := hU.1
      clear hU
      simp only [puts, Act.put, List.setIfInBounds_toArray, List.set_cons_zero, List.set_cons_succ] at hF
      generalize uF 12 = x17 at h17 hF
      obtain rfl : x17 = (.pointer (some ⟨gq, 0, none⟩)) := h17
      subst hF
      have d0 : W.cell? ⟨gq, 0, none⟩ = some (.slice (some ⟨gs, 0, none⟩) n n) := (hC.cell hgq).trans HD0.out
      go_wp2_with (fail)
      exact ⟨rfl, rfl, (Below.refl _ _), rfl⟩
    · intro uF W hC' hU aF hF
      have hC : Below w.heap.size w W := hC'
      clear hC'
      have h18 : (Det (.slice (some ⟨gs, 0, none⟩) n n)) (uF 13) W := hU.1
      clear hU
      simp only [puts, Act.put, List.setIfInBounds_toArray, List.set_cons_zero, List.set_cons_succ] at hF
      generalize uF 13 = x18 at h18 hF
      obtain rfl : x18 = (.slice (some ⟨gs, 0, none⟩) n n) := h18
      subst hF
      go_wp2_with (fail)
      exact ⟨rfl, rfl, (Below.refl _ _), rfl⟩
    · intro uF W hC' hU aF hF
      have hC : Below w.heap.size w W := hC'
      clear hC'
      have h14 : (Det (.int .i64 ((f : Int) + (i : Int)))) (uF 9) W := hU.1
      have h19 : (Det (.int .i64 (n : Int))) (uF 14) W := hU.2.1
      clear hU
      simp only [puts, Act.put, List.setIfInBounds_toArray, List.set_cons_zero, List.set_cons_succ] at hF
      generalize uF 9 = x14 at h14 hF
      generalize uF 14 = x19 at h19 hF
      obtain rfl : x14 = (.int .i64 ((f : Int) + (i : Int))) := h14
      obtain rfl : x19 = (.int .i64 (n : Int)) := h19
      subst hF
      go_wp2_with (fail)
      exact ⟨rfl, rfl, (Below.refl _ _), rfl⟩
    · intro uF W hC' hU aF hF
      have hC : Below w.heap.size w W := hC'
      clear hC'
      have h8 : (Det (.slice (some ⟨gs, 0, none⟩) n n)) (uF 3) W := hU.1
      have h20 : (Det (.int .i64 (j : Int))) (uF 15) W := hU.2.1
      clear hU
      simp only [puts, Act.put, List.setIfInBounds_toArray, List.set_cons_zero, List.set_cons_succ] at hF
      generalize uF 3 = x8 at h8 hF
      generalize uF 15 = x20 at h20 hF
      obtain rfl : x8 = (.slice (some ⟨gs, 0, none⟩) n n) := h8
      obtain rfl : x20 = (.int .i64 (j : Int)) := h20
      subst hF
      go_wp2_with (fail)
      exact ⟨rfl, rfl, (Below.refl _ _), rfl⟩
    · intro uF W hC' hU aF hF
      have hC : Below w.heap.size w W := hC'
      clear hC'
      have h21 : (Det (.pointer (some ⟨gs, j * 13, none⟩))) (uF 16) W := hU.1
      clear hU
      simp only [puts, Act.put, List.setIfInBounds_toArray, List.set_cons_zero, List.set_cons_succ] at hF
      generalize uF 16 = x21 at h21 hF
      obtain rfl : x21 = (.pointer (some ⟨gs, j * 13, none⟩)) := h21
      subst hF
      go_wp2_with (fail)
      exact ⟨rfl, rfl, (Below.refl _ _), rfl⟩
  intro uF W5 hC' hU aF hF
  have hCW5 : Below w.heap.size w W5 := hC'
  clear hC'
  have h4 : (Det (.pointer (some ⟨gs, j * 13, none⟩))) (uF 17) W5 := hU.2.2.2.2.2.2.2.2.2.2.2.2.2.2.2.2.2.1
  clear hU
  simp only [puts, Act.put, List.setIfInBounds_toArray, List.set_cons_zero, List.set_cons_succ] at hF
  generalize uF 0 = x5 at hF
  generalize uF 1 = x6 at hF
  generalize uF 2 = x7 at hF
  generalize uF 3 = x8 at hF
  generalize uF 4 = x9 at hF
  generalize uF 5 = x10 at hF
  generalize uF 6 = x11 at hF
  generalize uF 7 = x12 at hF
  generalize uF 8 = x13 at hF
  generalize uF 9 = x14 at hF
  generalize uF 10 = x15 at hF
  generalize uF 11 = x16 at hF
  generalize uF 12 = x17 at hF
  generalize uF 13 = x18 at hF
  generalize uF 14 = x19 at hF
  generalize uF 15 = x20 at hF
  generalize uF 16 = x21 at hF
  generalize uF 17 = x4 at h4 hF
  obtain rfl : x4 = (.pointer (some ⟨gs, j * 13, none⟩)) := h4
  subst hF
  go_wp2_with fail
  go_ret
  exact ⟨by rw [Nat.mul_comm 13 j]; rfl, hCW5⟩
end Go.Proofs.Ytkiiobfomnggcaa

