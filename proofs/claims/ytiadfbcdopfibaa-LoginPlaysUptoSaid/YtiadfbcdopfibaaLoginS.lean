/-
  login: a script of frames: its argument opened, how long it is, an op's frame (printed by wip/gen_login10.py).
-/
import Derived.Test.YtiadfbcdopfibaaLoginK
import Derived.Test.YtiadfbcdopfibaaBulkR
namespace Go.Proofs.Ytiadfbcdopfibaa
open Go.RowKit
set_option linter.unusedVariables false
set_option linter.unusedSimpArgs false
set_option maxRecDepth 100000

structure Opv where
  k : Int
  n : Int
  x : Int
  A : Option Addr
  m : Nat
  c : Nat
  ds : List UInt8
  d : Int
  o : Bool
def Opv.fr (o : Opv) : List Value := [.int .i64 o.k, .int .i64 o.n, .int .i64 o.x, .slice o.A o.m o.c]
def Opv.row (o : Opv) : List Value := [.int .i64 o.k, .int .i64 o.n, .int .i64 o.x, .slice o.A o.m o.c, .int .i64 o.d, .bool o.o]
def Opv.ok (w : World) (o : Opv) : Prop := SlB w w.heap.size o.A o.m o.c o.ds ∧ o.m ≤ 1048576
theorem Opv.of {w : World} {r : List Value} (R : Rds w (.cons (.cons (.int .i64) (.cons (.int .i64) (.cons (.int .i64) (.cons (.slice (.int .u8) 1 1) .nil)))) (.cons (.int .i64) (.cons .bool .nil))) r) (U : BdsR w 1048576 (.cons (.cons (.int .i64) (.cons (.int .i64) (.cons (.int .i64) (.cons (.slice (.int .u8) 1 1) .nil)))) (.cons (.int .i64) (.cons .bool .nil))) r) : ∃ o : Opv, r = o.row ∧ o.ok w := by
  obtain ⟨_, _, rfl, q0, _, _, rfl, q1, _, _, rfl, q2, rfl⟩ := R
  obtain ⟨_, _, rfl, r0, _, _, rfl, r1, _, _, rfl, r2, _, _, rfl, r3, rfl⟩ := q0
  obtain ⟨k, rfl, _⟩ := r0
  obtain ⟨n, rfl, _⟩ := r1
  obtain ⟨x, rfl, _⟩ := r2
  obtain ⟨A, m, c, ds, rfl, hs, _⟩ := Rds.bytes r3
  obtain ⟨d, rfl, _⟩ := q1
  obtain ⟨o, rfl⟩ := q2
  obtain ⟨_, _, e, ⟨_, _, rfl, ⟨k', rfl⟩, _, _, rfl, ⟨n', rfl⟩, _, _, rfl, ⟨x', rfl⟩, _, _, rfl, ⟨A', m', c', rfl, hm, hc, _⟩, rfl⟩, _, _, rfl, ⟨d', rfl⟩, _, _, rfl, ⟨o', rfl⟩, rfl⟩ := U
  simp only [List.cons_append, List.nil_append, List.append_nil, List.cons.injEq, Value.slice.injEq] at e
  obtain ⟨_, _, _, ⟨rfl, rfl, rfl⟩, _⟩ := e
  exact ⟨⟨k, n, x, A, m, c, ds, d, o⟩, rfl, hs, hm⟩
theorem ops_of {w : World} : ∀ (rows : List (List Value)), (∀ r ∈ rows, ∃ o : Opv, r = o.row ∧ o.ok w) → ∃ ops : List Opv, rows = ops.map Opv.row ∧ ∀ o ∈ ops, o.ok w
  | [], _ => ⟨[], rfl, fun o h => by cases h⟩
  | r :: rows, h => by
    obtain ⟨o, e, ho⟩ := h r (List.mem_cons_self ..)
    obtain ⟨ops, e2, h2⟩ := ops_of rows fun x hx => h x (List.mem_cons_of_mem _ hx)
    exact ⟨o :: ops, by rw [e, e2]; rfl, fun x hx => by
      rcases List.mem_cons.1 hx with rfl | hx
      · exact ho
      · exact h2 x hx⟩
def Scr (w : World) (A : Option Addr) (n c : Nat) (ops : List Opv) : Prop := ops.length = n ∧ n ≤ 1048576 ∧ (∀ o ∈ ops, o.ok w) ∧ Sl w w.heap.size 6 A n c (ops.map Opv.row).flatten
theorem script {w : World} {cs0 : List Value} (R0 : Rds w (.cons (.cons (.int .i64) (.cons (.int .i64) (.cons (.slice (.int .u8) 1 1) (.cons (.slice (.int .u8) 1 1) .nil)))) (.cons (.slice (.cons (.cons (.int .i64) (.cons (.int .i64) (.cons (.int .i64) (.cons (.slice (.int .u8) 1 1) .nil)))) (.cons (.int .i64) (.cons .bool .nil))) 6 64) .nil)) cs0) (U0 : BdsR w 1048576 (.cons (.cons (.int .i64) (.cons (.int .i64) (.cons (.slice (.int .u8) 1 1) (.cons (.slice (.int .u8) 1 1) .nil)))) (.cons (.slice (.cons (.cons (.int .i64) (.cons (.int .i64) (.cons (.int .i64) (.cons (.slice (.int .u8) 1 1) .nil)))) (.cons (.int .i64) (.cons .bool .nil))) 6 64) .nil)) cs0) :
    ∃ (tn init : Int) (At : Option Addr) (nt ct : Nat) (th : List UInt8) (Ao : Option Addr) (no co : Nat) (ou : List UInt8) (A : Option Addr) (n c : Nat) (ops : List Opv),
      cs0.toArray = #[.int .i64 tn, .int .i64 init, .slice At nt ct, .slice Ao no co, .slice A n c] ∧ SlB w w.heap.size At nt ct th ∧ SlB w w.heap.size Ao no co ou ∧ nt ≤ 1048576 ∧ no ≤ 1048576 ∧ Scr w A n c ops := by
  obtain ⟨_, _, rfl, q0, _, _, rfl, q1, rfl⟩ := R0
  obtain ⟨_, _, rfl, r0, _, _, rfl, r1, _, _, rfl, r2, _, _, rfl, r3, rfl⟩ := q0
  obtain ⟨tn, rfl, _⟩ := r0
  obtain ⟨init, rfl, _⟩ := r1
  obtain ⟨At, nt, ct, th, rfl, ht, _⟩ := Rds.bytes r2
  obtain ⟨Ao, no, co, ou, rfl, ho, _⟩ := Rds.bytes r3
  obtain ⟨A, n, c, rows, rfl, _, hn, hr, hs⟩ := q1
  obtain ⟨_, _, e, ⟨_, _, rfl, ⟨k', rfl⟩, _, _, rfl, ⟨n', rfl⟩, _, _, rfl, ⟨A2, m2, c2, rfl, hm2, _, _⟩, _, _, rfl, ⟨A3, m3, c3, rfl, hm3, _, _⟩, rfl⟩, _, _, rfl, ⟨A4, m4, c4, rfl, hm4, _, hrows⟩, rfl⟩ := U0
  simp only [List.cons_append, List.nil_append, List.append_nil, List.cons.injEq, Value.slice.injEq, and_true] at e
  obtain ⟨_, _, ⟨rfl, rfl, rfl⟩, ⟨rfl, rfl, rfl⟩, rfl, rfl, rfl⟩ := e
  obtain ⟨ops, e2, hok⟩ := ops_of rows fun r hm => Opv.of (hr r hm).2 (hrows rows hn (fun x hx => (hr x hx).1) hs r hm)
  subst e2
  exact ⟨tn, init, _, _, _, th, _, _, _, ou, _, _, _, ops, rfl, ht, ho, hm2, hm3, by simpa using hn, hm4, hok, hs⟩
theorem Scr.at_ {w : World} {A : Option Addr} {n c : Nat} {ops : List Opv} (h : Scr w A n c ops) {i : Nat} {o : Opv} (hi : ops[i]? = some o) :
    ∃ b off, A = some ⟨b, off, none⟩ ∧ b < w.heap.size ∧ o.ok w ∧ ∀ j v, o.row[j]? = some v → w.cell? ⟨b, off + i * 6 + j, none⟩ = some v := by
  obtain ⟨hl, _, hok, hs⟩ := h
  have hlt : i < ops.length := by
    rcases Nat.lt_or_ge i ops.length with h | h
    · exact h
    · rw [List.getElem?_eq_none h] at hi; cases hi
  obtain ⟨b, off, ea, hb, hc⟩ := hs.2.2.2 (by have := hs.2.1; omega)
  refine ⟨b, off, ea, hb, hok o (List.mem_of_getElem? hi), fun j v hj => ?_⟩
  have hj6 : j < 6 := by
    rcases Nat.lt_or_ge j 6 with h | h
    · exact h
    · rw [List.getElem?_eq_none (by simpa [Opv.row] using h)] at hj; cases hj
  have := hc (i * 6 + j) v (by
    rw [flatten_get 6 (ops.map Opv.row) (fun r hr => by obtain ⟨o', _, rfl⟩ := List.mem_map.1 hr; rfl) i j o.row (by rw [List.getElem?_map, hi]; rfl) hj6, hj])
  rwa [← Nat.add_assoc] at this
theorem Scr.below {w w' : World} {A : Option Addr} {n c : Nat} {ops : List Opv} (h : Scr w A n c ops) (hb : Below w.heap.size w w') : Scr w' A n c ops :=
  ⟨h.1, h.2.1, fun o ho => ⟨((h.2.2.1 o ho).1.below hb).more hb.size, (h.2.2.1 o ho).2⟩, (Sl.below h.2.2.2 hb).more hb.size⟩
def tot (ops : List Opv) : Nat := (ops.map fun o => 10 + o.m).sum
theorem tot_take {ops : List Opv} {i : Nat} {o : Opv} (h : ops[i]? = some o) : tot (ops.take (i + 1)) = tot (ops.take i) + (10 + o.m) := by
  rw [tot, List.take_add_one, h]
  simp [tot]
theorem tot_le {w : World} {ops : List Opv} (h : ∀ o ∈ ops, o.ok w) : tot ops ≤ ops.length * 1048586 := by
  induction ops with
  | nil => simp [tot]
  | cons o r ih =>
    have h1 := (h o (List.mem_cons_self ..)).2
    have h2 := ih fun x hx => h x (List.mem_cons_of_mem _ hx)
    simp only [tot, List.map_cons, List.sum_cons, List.length_cons] at h2 ⊢
    omega
def LongP (w : World) (t : Nat) (e : Ending) (w' : World) : Prop := ∃ r : Bool, e = .returned (.bool r) ∧ r = decide (3000 < t) ∧ Below w.heap.size w w'
theorem aggOp : AggT Try.prog 38 6 := ⟨⟨_, Try.underlying38, rfl⟩, by kernel_rfl⟩
theorem zeroOp : (Try.prog.info? 38).bind (·.zero) = some (.agg #[.int .i64 0, .int .i64 0, .int .i64 0, .slice none 0 0, .int .i64 0, .bool false]) := by kernel_rfl
theorem aggCase : AggT Try.prog 49 5 := ⟨⟨_, Try.underlying49, rfl⟩, by kernel_rfl⟩
set_option maxHeartbeats 4000000 in
theorem long_c {w : World} (tn init : Int) {At Ao A : Option Addr} {nt ct no co n c : Nat} {ops : List Opv} (hnt : nt ≤ 1048576) (hno : no ≤ 1048576) (hs : Scr w A n c ops) :
    Calls Try.prog 18 #[.agg #[.int .i64 tn, .int .i64 init, .slice At nt ct, .slice Ao no co, .slice A n c]] w (LongP w (nt + no + tot ops)) := by
  obtain ⟨v, hv⟩ : ∃ v, v = w.alloc (.cells #[.int .i64 tn, .int .i64 init, .slice At nt ct, .slice Ao no co, .slice A n c] 49) := ⟨_, rfl⟩
  have b1 : Blk v w.heap.size 49 #[.int .i64 tn, .int .i64 init, .slice At nt ct, .slice Ao no co, .slice A n c] := by rw [hv]; exact Blk.new _ _ _
  have hbv : Below w.heap.size w v := by rw [hv]; exact below_alloc _ _
  have hz := hbv.size
  have d2 : v.cell? ⟨w.heap.size, 2, none⟩ = some (.slice At nt ct) := by rw [b1.cell]; rfl
  have d3 : v.cell? ⟨w.heap.size, 3, none⟩ = some (.slice Ao no co) := by rw [b1.cell]; rfl
  have d4 : v.cell? ⟨w.heap.size, 4, none⟩ = some (.slice A n c) := by rw [b1.cell]; rfl
  have hn1 : n ≤ 1048576 := hs.2.1
  have hln : ops.length = n := hs.1
  have HS := Lib.hid hs
  have HV := Lib.hid hv
  have HBV := Lib.hid hbv
  have HL := Lib.hid hln
  rw [hv] at d2 d3 d4
  clear hv b1 hs hbv hln
  go_enter Try.func18, Try.ntmps18
  go_wp2_with fail
  go_loopw [3, 18] (fun v3 v18 wr => ∃ i s : Nat, i ≤ n ∧ v18 = .int .i64 (i : Int) ∧ v3 = .int .i64 (s : Int) ∧ s = nt + no + tot (ops.take i) ∧ s ≤ 2097152 + i * 1048586 ∧ Below w.heap.size w wr) (fun _ v18 _ => n - (intOf v18).toNat)
  case atStart => exact ⟨0, nt + no, by omega, rfl, by go_num, by simp [tot], by omega, by rw [← HV.out]; exact HBV.out⟩
  case round =>
    obtain ⟨i, s, hi, rfl, rfl, hs, hsm, hw⟩ := hrel
    have hzw := hw.size
    have hi0 : (0 : Int) ≤ (i : Int) := by omega
    have hs0 : (0 : Int) ≤ (s : Int) := by omega
    have hs9 : (s : Int) ≤ 1099524276224 := by omega
    by_cases hlt : i < n
    · have hil : (i : Int) < (n : Int) := by omega
      obtain ⟨o, ho⟩ : ∃ o, ops[i]? = some o := ⟨ops[i]'(by rw [HL.out]; exact hlt), List.getElem?_eq_getElem _⟩
      obtain ⟨gb, off, rfl, hgb, hok, hcell⟩ := HS.out.at_ ho
      have hm0 := hok.2
      have HT := Lib.hid (tot_take ho)
      have HC := Lib.hid (show ∀ (j : Nat) v, (#[.int .i64 o.k, .int .i64 o.n, .int .i64 o.x, .slice o.A o.m o.c, .int .i64 o.d, .bool o.o] : Array Value)[j]? = some v → wr.cell? ⟨gb, off + i * 6 + j, none⟩ = some v from fun j v hj => (hw.cell (p := ⟨gb, off + i * 6 + j, none⟩) hgb).trans (hcell j v (by simpa [Opv.row] using hj)))
      have HS2 := Lib.hid hs
      have HW := Lib.hid hw
      clear hs hw hcell hok
      go_wp2_with (first
        | ((with_reducible show wpList _ _ _ (Oper.mk (some 21) (Op.load 38 _) _ _ _ _ :: _) _ _); refine wpList_load_agg rfl 38 (.tmp 20) rfl gb (off + i * 6) rfl #[.int .i64 o.k, .int .i64 o.n, .int .i64 o.x, .slice o.A o.m o.c, .int .i64 o.d, .bool o.o] aggOp rfl HC.out ?_))
      exact ⟨⟨i + 1, s + (10 + o.m), by omega, by go_num, by go_num, by rw [HT.out, HS2.out]; omega, by omega, HW.out.alloc hzw _⟩, by simp [intOf]; omega⟩
    · obtain rfl : i = n := by omega
      have hil : ¬ (i : Int) < (i : Int) := by omega
      have HW := Lib.hid hw
      have HS2 := Lib.hid (show s = nt + no + tot ops by rw [hs, List.take_of_length_le (by rw [HL.out]; exact Nat.le_refl _)])
      clear hw hs
      go_wp2_with fail
      go_ret
      exact ⟨decide ((3000 : Int) < (s : Int)), rfl, by have := HS2.out; simp only [decide_eq_decide]; omega, HW.out⟩
end Go.Proofs.Ytiadfbcdopfibaa
