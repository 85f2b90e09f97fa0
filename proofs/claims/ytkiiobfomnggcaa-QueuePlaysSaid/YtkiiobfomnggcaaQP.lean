/-
  queue: the two queues side by side; marks of deferred calls (printed by wip/gen_qp.py).
-/
import Derived.Test.YtkiiobfomnggcaaQS
import Derived.Test.YtkiiobfomnggcaaOver
namespace Go.Proofs.Ytkiiobfomnggcaa
open Go.RowKit Go.Shelf
set_option linter.unusedVariables false
set_option linter.unusedSimpArgs false
set_option maxRecDepth 100000

/-! ## Marks of deferred calls -/
def mkD (D : Nat) : Deferred := { target := .collected D, args := #[] }
def Mks (base : Nat) (Ds : List Nat) (W : World) : Prop := Ds.Nodup ∧ ∀ D ∈ Ds, base ≤ D ∧ W.heap[D]? = some (.deferred (some []))
section
variable {base : Nat} {Ds : List Nat} {W W' : World}
theorem Mks.keep (h : Mks base Ds W) (hk : ∀ (g : Nat) (l : Option (List Deferred)), W.heap[g]? = some (Obj.deferred l) → W'.heap[g]? = some (Obj.deferred l)) : Mks base Ds W' := ⟨h.1, fun D hD => ⟨(h.2 D hD).1, hk D _ (h.2 D hD).2⟩⟩
theorem Mks.below (h : Mks base Ds W) (hb : Below W.heap.size W W') : Mks base Ds W' := h.keep fun g l e => (hb.block g (Array.getElem?_eq_some_iff.1 e).1).trans e
theorem Mks.grown {g : Nat} {t : TypeId} {cs : Array Value} (h : Mks base Ds W) (hk : Blk W g t cs) (hg : W.grownBy W' (some g)) : Mks base Ds W' := h.keep fun g' l e => (hg.block g' (Array.getElem?_eq_some_iff.1 e).1 (fun e2 => by
  cases e2
  rw [Blk, e] at hk
  cases hk)).trans e
theorem Mks.cons {D : Nat} (h : Mks base Ds W) (hb : base ≤ D) (hn : D ∉ Ds) (hD : W.heap[D]? = some (.deferred (some []))) : Mks base (D :: Ds) W := ⟨List.nodup_cons.2 ⟨hn, h.1⟩, fun E hE => by
  rcases List.mem_cons.1 hE with rfl | hE
  · exact ⟨hb, hD⟩
  · exact h.2 E hE⟩
end
theorem leaves_marks {F : Fence} {nn : Nat} {P : Program} {fn : Func} {tmps : Array Value} {R : Ending → World → Prop} {base : Nat} : ∀ (Ds : List Nat) (W : World), base ≤ W.heap.size → Mks base Ds W → (∀ W', (∀ g t cs, Blk W g t cs → Blk W' g t cs) → Below base W W' → ∃ v, (results fn tmps).run P W' = .ok v W' ∧ R (.returned v) W') → LeavesInM F nn P fn tmps R (Ds.map mkD) .returning W
  | [], W, _, _, h => h W (fun _ _ _ hb => hb) (Below.refl _ _)
  | D :: Ds, W, hs, hm, h => by
    obtain ⟨hn, hm⟩ := hm
    rw [List.nodup_cons] at hn
    have hD := hm D (List.mem_cons_self ..)
    have hc := calm_putObj (B := base) (.deferred none) hD.1 hD.2 rfl
    refine ⟨by simp, .inl ⟨D, _, rfl, run_takeDeferred hD.2, ?_⟩⟩
    refine leaves_marks Ds _ (by rw [World.putObj_size]; exact hs) ⟨hn.2, fun E hE => ⟨(hm E (List.mem_cons_of_mem _ hE)).1, (World.putObj_heap_other (fun e => hn.1 (by rw [← e]; exact hE))).trans (hm E (List.mem_cons_of_mem _ hE)).2⟩⟩ fun W' h1 h2 => h W' (fun g t cs hb => h1 g t cs (hc.blk hb)) ((hc.below (Below.refl _ _) (Nat.le_refl _) hs).trans h2)
theorem res_boolM {P : Program} {w : World} {fn : Func} {p : Tmp} {ty : TypeId} (hr : fn.results = #[.cell p ty]) (tmps : Array Value) (g : Nat) (tb : TypeId) (b : Bool) (ht : P.underlying ty = some .bool)
    (hp : tmps.getD p undef = .pointer (some ⟨g, 0, none⟩)) (hb : Blk w g tb #[.bool b]) : (results fn tmps).run P w = .ok (.bool b) w := by
  have hp' : tmps[p]?.getD undef = .pointer (some ⟨g, 0, none⟩) := by simpa using hp
  have hc : w.cell? ⟨g, 0, none⟩ = some (.bool b) := by rw [hb.cell]; rfl
  simp [results, hr, hp', asAddr, loadVar, isAgg, run_underlying ht, hc]

theorem wpList_min {P : Program} {ops : Array Oper} {rest : List Oper} {o : Oper} {a : Act} {Q : Exit → Act → World → Prop} {w : World} (hgd : o.guard = none) (s x : Operand) (t t' : TypeId)
    (ho : o.op = .call { callee := .builtin .min, args := #[s, x], argTypes := #[t, t'] }) {p q : Int} (hs : a.eval s = .int .i64 p) (hx : a.eval x = .int .i64 q) (r : Int) (hr : (if q < p then q else p) = r)
    (h : wpList P ops Q rest (a.put o.dst (.int .i64 r)) w) : wpList P ops Q (o :: rest) a w := by
  refine wpList_plain hgd fun K hK => ?_
  unfold Oper.wp execOp
  have hm : (Builtin.min_ #[t, t'] o.type #[.int .i64 p, .int .i64 q]).run P w = .ok (.int .i64 r) w := by rw [← hr]; simp [Builtin.min_, Builtin.min2]
  simp only [ho, resolve, invoke, builtin, Sem.run_bind, Sem.run_pure, Result.andThen_ok, List.map_toArray, List.map_cons, List.map_nil, hs, hx, hm]
  exact hK _ _ h
/-! ## The two queues -/
structure Pl (B g5 g6 gq g9 gm n mm : Nat) (ps rs : List Wt) (Ds : List Nat) (W : World) : Prop where
  b5 : Blk W g5 3 #[.int .i64 (mm : Int)]
  b6 : Blk W g6 4 #[.bool false]
  b9 : Blk W g9 60 #[.pointer (some ⟨gm, 0, none⟩)]
  q : Qs W B gq n (ps.map Wt.row)
  r : Rq W B gm n (rs.map Wt.row2)
  dq : ∀ p ∈ ps, OwB W B p.A p.m p.c p.bs ∧ p.m ≤ 140737488351232
  dr : ∀ p ∈ rs, SlB W B p.A2 p.m p.c2 p.bs
  ms : Mks B Ds W
section
variable {B g5 g6 gq g9 gm n mm : Nat} {ps rs : List Wt} {Ds : List Nat} {W W' : World}
theorem Pl.size (h : Pl B g5 g6 gq g9 gm n mm ps rs Ds W) : B ≤ W.heap.size := Nat.le_of_lt h.q.le.2.2
theorem Pl.below (h : Pl B g5 g6 gq g9 gm n mm ps rs Ds W) (hb : Below W.heap.size W W') : Pl B g5 g6 gq g9 gm n mm ps rs Ds W' :=
  ⟨h.b5.below hb h.b5.lt, h.b6.below hb h.b6.lt, h.b9.below hb h.b9.lt, h.q.below hb, h.r.below hb, fun p hp => ⟨OwB.below (h.dq p hp).1 hb, (h.dq p hp).2⟩, fun p hp => (h.dr p hp).below (hb.mono h.size), h.ms.below hb⟩
theorem Pl.qop {ps' : List Wt} (h : Pl B g5 g6 gq g9 gm n mm ps rs Ds W) (hq : Qs W' B gq n (ps'.map Wt.row)) (hb : Below B W W') (ht : Ty W W') (hd : ∀ p ∈ ps', p ∈ ps ∨ (OwB W' B p.A p.m p.c p.bs ∧ p.m ≤ 140737488351232)) : Pl B g5 g6 gq g9 gm n mm ps' rs Ds W' :=
  ⟨ht.2 _ _ _ h.b5 (by decide) (by decide), ht.2 _ _ _ h.b6 (by decide) (by decide), ht.2 _ _ _ h.b9 (by decide) (by decide), hq, h.r.ty ht, fun p hp => by
    rcases hd p hp with h1 | h1
    · exact ⟨Row.ty (h.dq p h1).1 ht, (h.dq p h1).2⟩
    · exact h1, fun p hp => (h.dr p hp).below hb, h.ms.keep ht.1.2⟩
theorem Qs.tyR {xs : List (List Value)} (h : Qs W B gq n xs) (ht : TyR W W') : Qs W' B gq n xs :=
  let ⟨gs, f, k, rows, h, h1, h2, h3⟩ := h
  ⟨gs, f, k, rows, ⟨ht.2 _ _ _ h.bq (by decide) (by decide), ht.2 _ _ _ h.bs (by decide) (by decide), h.len, h.row, h.fl, h.kl, h.le8⟩, h1, h2, h3⟩
theorem Pl.rop {rs' : List Wt} (h : Pl B g5 g6 gq g9 gm n mm ps rs Ds W) (hr : Rq W' B gm n (rs'.map Wt.row2)) (hb : Below B W W') (ht : TyR W W') (hd : ∀ p ∈ rs', p ∈ rs ∨ SlB W' B p.A2 p.m p.c2 p.bs) : Pl B g5 g6 gq g9 gm n mm ps rs' Ds W' :=
  ⟨ht.2 _ _ _ h.b5 (by decide) (by decide), ht.2 _ _ _ h.b6 (by decide) (by decide), ht.2 _ _ _ h.b9 (by decide) (by decide), h.q.tyR ht, hr, fun p hp => ⟨Row.tyR (h.dq p hp).1 ht (by decide) (by decide), (h.dq p hp).2⟩, fun p hp => by
    rcases hd p hp with h1 | h1
    · exact (h.dr p h1).below hb
    · exact h1, h.ms.keep ht.1.2⟩
theorem Qs.gone {xs : List (List Value)} {g : Nat} {t : TypeId} {cs : Array Value} (h : Qs W B gq n xs) (hk : Blk W g t cs) (h1 : t ≠ 83) (h2 : t ≠ 48) (hg : W.grownBy W' (some g)) : Qs W' B gq n xs :=
  let ⟨gs, f, k, rows, h, h3, h4, h5⟩ := h
  ⟨gs, f, k, rows, ⟨h.bq.grown hg (by simpa using h.bq.ne_ty hk (Ne.symm h1)), h.bs.grown hg (by simpa using h.bs.ne_ty hk (Ne.symm h2)), h.len, h.row, h.fl, h.kl, h.le8⟩, h3, h4, h5⟩
/-- Bytes that none of those that wait hold are written over. -/
theorem Pl.over {g : Nat} {cs : Array Value} (h : Pl B g5 g6 gq g9 gm n mm ps rs Ds W) (hk : Blk W g 5 cs) (hg : W.grownBy W' (some g)) (hB : B ≤ g) (hp : ∀ p ∈ ps, wrote p.A p.c ≠ some g) : Pl B g5 g6 gq g9 gm n mm ps rs Ds W' :=
  ⟨h.b5.grown hg (by simpa using h.b5.ne_ty hk (by decide)), h.b6.grown hg (by simpa using h.b6.ne_ty hk (by decide)), h.b9.grown hg (by simpa using h.b9.ne_ty hk (by decide)), h.q.gone hk (by decide) (by decide) hg, h.r.gone hk (by decide) (by decide) hg,
    fun p hp' => ⟨Row.keepRow (h.dq p hp').1 hg (.inr (hp p hp')), (h.dq p hp').2⟩, fun p hp' => (h.dr p hp').below ((Below.refl B W).grown hg h.size (fun k hk => by cases hk; exact hB)), h.ms.grown hk hg⟩
end

theorem wp_at {P : Program} {C : Code} {Q : Exit → Act → World → Prop} {a : Act} {w : World} (h : ∀ a0, a0 = a → C.wp P Q a0 w) : C.wp P Q a w := h a rfl
theorem fold_two (p q : Tmp) (v u : Value) (t : Array Value) : ((#[p, q].zip #[v, u]).foldl (fun t (x : Tmp × Value) => match x with | (p, v) => t.setIfInBounds p v) t) = (t.setIfInBounds p v).setIfInBounds q u := by simp
theorem all_c (gq : Nat) (w : World) : Calls Try.prog 28 #[.pointer (some ⟨gq, 0, none⟩)] w fun e w' => e = .returned (.func (.func 37) #[] #[.pointer (some ⟨w.heap.size, 0, none⟩)]) ∧ w' = w.alloc (.cells #[.pointer (some ⟨gq, 0, none⟩)] 37) := by
  go_enter Try.func28, Try.ntmps28
  go_wp2_with fail
  go_ret
  exact ⟨rfl, rfl⟩
theorem Qs.low {w : World} {base base' gq n : Nat} {xs : List (List Value)} (h : Qs w base gq n xs) (hb : base' ≤ base) : Qs w base' gq n xs :=
  let ⟨gs, f, k, rows, h, h1, h2, h3⟩ := h
  ⟨gs, f, k, rows, h, Nat.le_trans hb h1, Nat.le_trans hb h2, h3⟩
/-- What stands while the range over a queue runs: all from ahead of it, and its counter. -/
structure RI (x0 : World) (g19 m : Nat) (O : Nat → Prop) (W : World) : Prop where
  bel : Below x0.heap.size x0 W
  own : ∀ k, O k → x0.heap.size ≤ k
  o19 : O g19
  b19 : Blk W g19 3 #[.int .i64 (m : Int)]
section
variable {x0 W W' : World} {g19 m : Nat} {O : Nat → Prop}
theorem RI.calm {Z : Nat} (h : RI x0 g19 m O W) (hc : Calm Z W W') (hx : x0.heap.size ≤ Z) : RI x0 g19 m O W' := ⟨hc.below h.bel hx (Nat.le_refl _), h.own, h.o19, hc.blk h.b19⟩
theorem RI.on (h : RI x0 g19 m O W) (hb : Below W.heap.size W W') : RI x0 g19 m O W' := ⟨h.bel.trans (hb.mono h.bel.size), h.own, h.o19, h.b19.below hb h.b19.lt⟩
theorem RI.more (h : RI x0 g19 m O W) (g : Nat) (hg : W.heap.size ≤ g) : RI x0 g19 m (fun k => O k ∨ k = g) W := ⟨h.bel, fun k hk => by
  rcases hk with hk | rfl
  · exact h.own k hk
  · exact Nat.le_trans h.bel.size hg, .inl h.o19, h.b19⟩
theorem RI.over {row : Option Nat} (h : RI x0 g19 m O W) (hg : W.grownBy W' row) (hA : ∀ g, row = some g → O g ∧ g ≠ g19) : RI x0 g19 m O W' :=
  ⟨h.bel.grown hg h.bel.size (fun k hk => h.own k (hA k hk).1), h.own, h.o19, h.b19.grown hg (fun e => (hA g19 e.symm).2 rfl)⟩
theorem RI.set (h : RI x0 g19 m O W) (m' : Nat) : RI x0 g19 m' O (W.setCell ⟨g19, 0, none⟩ (.int .i64 (m' : Int))) :=
  ⟨h.bel.setCell (p := ⟨g19, 0, none⟩) (h.own _ h.o19) _, h.own, h.o19, by simpa using h.b19.set_ 0 (.int .i64 (m' : Int))⟩
end

theorem Det.laterT {c : Value} (_ : True) (v : Value) (w w' : World) (_ : True) (h : Det c v w) : Det c v w' := h
theorem Any.laterT (_ : True) (v : Value) (w w' : World) (_ : True) (h : Any v w) : Any v w' := h
/-- The region that drops at both queues: false ahead of the program's Drop, true behind it. -/
def CD (w1 : World) (B gq n : Nat) (ps pf : List Wt) (b : Bool) (W : World) : Prop := Ty w1 W ∧ Below B w1 W ∧ Qs W B gq n ((if b = true then pf else ps).map Wt.row)
section
variable {w1 W W' : World} {B gq n : Nat} {ps pf : List Wt} {b : Bool}
theorem CD.start (h : Qs w1 B gq n (ps.map Wt.row)) : CD w1 B gq n ps pf false w1.drew := ⟨Ty.below (Below.refl _ _).drew, (Below.refl _ _).drew, by rw [if_neg (by simp)]; exact h.below (Below.refl _ _).drew⟩
theorem CD.step (h : CD w1 B gq n ps pf b W) (hb : Below W.heap.size W W') : True ∧ CD w1 B gq n ps pf b W' := ⟨trivial, h.1.trans (Ty.below hb), h.2.1.trans (hb.mono (Nat.le_of_lt h.2.2.le.2.2)), h.2.2.below hb⟩
theorem CD.was (h : CD w1 B gq n ps pf false W) : Qs W B gq n (ps.map Wt.row) := by have := h.2.2; rwa [if_neg (by simp)] at this
theorem CD.now (h : CD w1 B gq n ps pf true W) : Qs W B gq n (pf.map Wt.row) := by have := h.2.2; rwa [if_pos rfl] at this
theorem CD.call (h : CD w1 B gq n ps pf false W) (hq : Qs W' B gq n (pf.map Wt.row)) (hb : Below B W W') (ht : Ty W W') : CD w1 B gq n ps pf true W' := ⟨h.1.trans ht, h.2.1.trans hb, by rw [if_pos rfl]; exact hq⟩
end

set_option maxHeartbeats 4000000 in
theorem new_no (b : Int) (hb : b < 1 ∨ 8 < b) (w : World) :
    Calls Try.prog 15 #[.int .i64 b] w fun e w' => e = .returned (.tuple #[.pointer none, .iface 59 (.int .i64 1)]) ∧ w = w' := by
  by_cases h1 : b < 1
  · have HB := Lib.hid hb
    clear hb
    go_enter Try.func15, Try.ntmps15
    go_wp2_with fail
    go_ret2
    exact ⟨rfl, rfl⟩
  · have h2 : 8 < b := by omega
    clear hb
    go_enter Try.func15, Try.ntmps15
    go_wp2_with fail
    go_ret2
    exact ⟨rfl, rfl⟩
end Go.Proofs.Ytkiiobfomnggcaa
