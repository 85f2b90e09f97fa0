/-
  queue: a script of calls: its argument opened, how long it is (printed by wip/gen_qs.py).
-/
import Derived.Test.YtkiiobfomnggcaaQT
namespace Go.Proofs.Ytkiiobfomnggcaa
open Go.RowKit Go.Shelf
set_option linter.unusedVariables false
set_option linter.unusedSimpArgs false
set_option maxRecDepth 100000

structure Opw where
  k : Int
  i : Int
  n : Int
  A : Option Addr
  m : Nat
  c : Nat
  ds : List UInt8
def Opw.row (o : Opw) : List Value := [.int .i64 o.k, .int .i64 o.i, .int .i64 o.n, .slice o.A o.m o.c]
def Opw.ok (w : World) (o : Opw) : Prop := SlB w w.heap.size o.A o.m o.c o.ds ∧ o.m ≤ 140737488351232
theorem Opw.of {w : World} {r : List Value} (R : Rds w (.cons (.int .i64) (.cons (.int .i64) (.cons (.int .i64) (.cons (.slice (.int .u8) 1 1) .nil)))) r) : ∃ o : Opw, r = o.row ∧ o.ok w := by
  obtain ⟨_, _, rfl, r0, _, _, rfl, r1, _, _, rfl, r2, _, _, rfl, r3, rfl⟩ := R
  obtain ⟨k, rfl, _⟩ := r0
  obtain ⟨i, rfl, _⟩ := r1
  obtain ⟨n, rfl, _⟩ := r2
  obtain ⟨A, m, c, ds, rfl, hs, hc⟩ := Rds.bytes r3
  exact ⟨⟨k, i, n, A, m, c, ds⟩, rfl, hs, Nat.le_trans hs.le hc⟩
theorem ops_of9 {w : World} : ∀ (rows : List (List Value)), (∀ r ∈ rows, ∃ o : Opw, r = o.row ∧ o.ok w) → ∃ ops : List Opw, rows = ops.map Opw.row ∧ ∀ o ∈ ops, o.ok w
  | [], _ => ⟨[], rfl, fun o h => by cases h⟩
  | r :: rows, h => by
    obtain ⟨o, e, ho⟩ := h r (List.mem_cons_self ..)
    obtain ⟨ops, e2, h2⟩ := ops_of9 rows fun x hx => h x (List.mem_cons_of_mem _ hx)
    exact ⟨o :: ops, by rw [e, e2]; rfl, fun x hx => by
      rcases List.mem_cons.1 hx with rfl | hx
      · exact ho
      · exact h2 x hx⟩
def Scw (w : World) (A : Option Addr) (n c : Nat) (ops : List Opw) : Prop := ops.length = n ∧ n ≤ 4398046511104 ∧ c ≤ 4398046511104 ∧ (∀ o ∈ ops, o.ok w) ∧ Sl w w.heap.size 4 A n c (ops.map Opw.row).flatten
theorem scriptW {w : World} {v : Value} (R0 : Rds w (.slice (.cons (.int .i64) (.cons (.int .i64) (.cons (.int .i64) (.cons (.slice (.int .u8) 1 1) .nil)))) 4 48) [v]) :
    ∃ (A : Option Addr) (n c : Nat) (ops : List Opw), v = .slice A n c ∧ Scw w A n c ops := by
  obtain ⟨A, n, c, rows, e1, hc, hn, hr, hs⟩ := R0
  simp only [List.cons.injEq, and_true] at e1
  subst e1
  obtain ⟨ops, e2, hok⟩ := ops_of9 rows fun r hm => Opw.of (hr r hm).2
  subst e2
  have hnc := hs.2.1
  exact ⟨_, _, _, ops, rfl, by simpa using hn, by omega, by omega, hok, hs⟩
theorem Scw.at_ {w : World} {A : Option Addr} {n c : Nat} {ops : List Opw} (h : Scw w A n c ops) {i : Nat} {o : Opw} (hi : ops[i]? = some o) :
    ∃ b off, A = some ⟨b, off, none⟩ ∧ b < w.heap.size ∧ o.ok w ∧ ∀ j v, o.row[j]? = some v → w.cell? ⟨b, off + i * 4 + j, none⟩ = some v := by
  obtain ⟨hl, _, _, hok, hs⟩ := h
  have hlt : i < ops.length := by
    rcases Nat.lt_or_ge i ops.length with h | h
    · exact h
    · rw [List.getElem?_eq_none h] at hi; cases hi
  obtain ⟨b, off, ea, hb, hc⟩ := hs.2.2.2 (by have := hs.2.1; omega)
  refine ⟨b, off, ea, hb, hok o (List.mem_of_getElem? hi), fun j v hj => ?_⟩
  have hj4 : j < 4 := by
    rcases Nat.lt_or_ge j 4 with h | h
    · exact h
    · rw [List.getElem?_eq_none (by simpa [Opw.row] using h)] at hj; cases hj
  have := hc (i * 4 + j) v (by
    rw [flatten_get 4 (ops.map Opw.row) (fun r hr => by obtain ⟨o', _, rfl⟩ := List.mem_map.1 hr; rfl) i j o.row (by rw [List.getElem?_map, hi]; rfl) hj4, hj])
  rwa [← Nat.add_assoc] at this
theorem Scw.below {w w' : World} {A : Option Addr} {n c : Nat} {ops : List Opw} (h : Scw w A n c ops) (hb : Below w.heap.size w w') : Scw w' A n c ops :=
  ⟨h.1, h.2.1, h.2.2.1, fun o ho => ⟨((h.2.2.2.1 o ho).1.below hb).more hb.size, (h.2.2.2.1 o ho).2⟩, (Sl.below h.2.2.2.2 hb).more hb.size⟩

def LongQ (w : World) (e : Ending) (w' : World) : Prop := ∃ r : Bool, e = .returned (.bool r) ∧ Below w.heap.size w w'
set_option maxHeartbeats 4000000 in
theorem long9_c {w : World} {A : Option Addr} {n c : Nat} {ops : List Opw} (hs : Scw w A n c ops) :
    Calls Try.prog 20 #[.slice A n c] w (LongQ w) := by
  have hn1 : n ≤ 4398046511104 := hs.2.1
  have hc1 : c ≤ 4398046511104 := hs.2.2.1
  have hnc := hs.2.2.2.2.2.1
  have HS := Lib.hid hs
  have HL := Lib.hid hs.1
  clear hs
  go_enter Try.func20, Try.ntmps20
  go_wp2_with fail
  go_loopw [3, 8] (fun v3 v8 wr => ∃ (i : Nat) (s : Int), i ≤ n ∧ v8 = .int .i64 (i : Int) ∧ v3 = .int .i64 s ∧ Below w.heap.size w wr) (fun _ v8 _ => n - (intOf v8).toNat)
  case atStart => exact ⟨0, 0, by omega, rfl, rfl, Below.refl _ _⟩
  case round =>
    obtain ⟨i, s, hi, rfl, rfl, hw⟩ := hrel
    have hzw := hw.size
    have hi0 : (0 : Int) ≤ (i : Int) := by omega
    by_cases hlt : i < n
    · have hil : (i : Int) < (n : Int) := by omega
      have hi9 : (i : Int) < 4398046511104 := by omega
      obtain ⟨o, ho⟩ : ∃ o, ops[i]? = some o := ⟨ops[i]'(by rw [HL.out]; exact hlt), List.getElem?_eq_getElem _⟩
      obtain ⟨gb, off, rfl, hgb, hok, hcell⟩ := HS.out.at_ ho
      have hm0 := hok.2
      obtain ⟨q, hq⟩ : ∃ q, q = o.m / 100 := ⟨_, rfl⟩
      have htd : ((o.m : Int)).tdiv 100 = (q : Int) := by rw [Int.tdiv_eq_ediv_of_nonneg (by omega), hq]; rfl
      have hed : (o.m : Int) / 100 = (q : Int) := by rw [hq]; rfl
      have hq9 : (q : Int) ≤ 140737488351232 := by omega
      have hq0 : (0 : Int) ≤ (q : Int) := by omega
      have HC := Lib.hid (show ∀ (j : Nat) v, (#[.int .i64 o.k, .int .i64 o.i, .int .i64 o.n, .slice o.A o.m o.c] : Array Value)[j]? = some v → wr.cell? ⟨gb, off + i * 4 + j, none⟩ = some v from fun j v hj => (hw.cell (p := ⟨gb, off + i * 4 + j, none⟩) hgb).trans (hcell j v (by simpa [Opw.row] using hj)))
      have HW := Lib.hid hw
      have bn := Blk.new wr 65 #[.int .i64 0, .int .i64 0, .int .i64 0, .slice none 0 0]
      clear hw hcell hok hq
      go_wp2_with (first
        | ((with_reducible show wpList _ _ _ (Oper.mk (some 11) (Op.load _ _) _ _ _ _ :: _) _ _); refine wpList_load_agg rfl 65 (.tmp 10) rfl gb (off + i * 4) rfl #[.int .i64 o.k, .int .i64 o.i, .int .i64 o.n, .slice o.A o.m o.c] aggOp9 rfl HC.out ?_)
        | ((with_reducible show wpList _ _ _ (Oper.mk (some 5) (Op.alloc _) _ _ _ _ :: _) _ _); refine wpList_alloc_agg rfl 65 rfl #[.int .i64 0, .int .i64 0, .int .i64 0, .slice none 0 0] zeroOp9 ?_)
        | ((with_reducible show wpList _ _ _ (Oper.mk none (Op.store _ (.tmp 5) _) _ _ _ _ :: _) _ _); refine wpList_store_whole rfl 65 (.tmp 5) (.tmp 11) rfl wr.heap.size rfl [.int .i64 o.k, .int .i64 o.i, .int .i64 o.n, .slice o.A o.m o.c] rfl aggOp9 rfl _ _ bn rfl (by simp [Value.oneCell']) ?_; intro w4 b4 g4 s4; have h4 : Below wr.heap.size wr w4 := (below_alloc _ _).grown g4 (by simp) (fun k hk => by cases hk; exact Nat.le_refl _); have d4 : w4.cell? ⟨wr.heap.size, 3, none⟩ = some (.slice o.A o.m o.c) := (by rw [b4.cell]; rfl); clear b4 g4 s4))
      exact ⟨⟨i + 1, _, by omega, by go_num, rfl, HW.out.trans (h4.mono hzw)⟩, by simp [intOf]; omega⟩
    · obtain rfl : i = n := by omega
      have hil : ¬ (i : Int) < (i : Int) := by omega
      have HW := Lib.hid hw
      clear hw
      go_wp2_with fail
      go_ret
      exact ⟨decide ((400 : Int) < s), rfl, HW.out⟩
end Go.Proofs.Ytkiiobfomnggcaa
