/-
  A range over a function: the fenced laws brought to a caller that is walked by the plain words, for iterators that hand out memory of their own.
-/
import Derived.RangeFuncWrites
import Derived.RangeFuncCalls
import Derived.RangeFuncBound
import Derived.RangeFuncLeaves
import Derived.Shelf.Abstract
import Derived.OwnWalkIn
import Derived.TacticsInMore
import Derived.LoopNIn
import Derived.LoopIn
import Derived.StillTailTactics
import Derived.OrdersIn
import Derived.Test.YtbphoilfiahnpaaLib
namespace Go.Proofs.Ytbphoilfiahnpaa
open Go.RowKit Go.Shelf
set_option linter.unusedVariables false

/-- The fence of a round of loop l: it forbids nothing. -/
abbrev Rd (l : Nat) : Fence := Fence.wide.inRound l
/-- A fence that forbids nothing. -/
def Free (F : Fence) : Prop := F = Fence.wide ∨ ∃ l, F = Rd l
theorem free_wide : Free Fence.wide := .inl rfl
theorem free_rd (l : Nat) : Free (Rd l) := .inr ⟨l, rfl⟩

section
variable {F : Fence} {n : Nat} {P : Program}
theorem Free.fn (h : Free F) (f : FuncId) : F.fn f := by rcases h with rfl | ⟨l, rfl⟩ <;> exact trivial
theorem Free.depth (h : Free F) : F.depth = none := by rcases h with rfl | ⟨l, rfl⟩ <;> rfl
theorem Free.calls (h : Free F) {f : FuncId} {args : Array Value} {w : World} {R : Ending → World → Prop} (hc : Calls P f args w R) : CallsIn F n P f args w R := by
  rcases h with rfl | ⟨l, rfl⟩
  · exact callsIn_wide.2 hc
  · exact CallsIn.inRound l (callsIn_wide.2 hc)
theorem Free.rows (h : Free F) {row : String} {args : Array Value} {w : World} {R : Value → World → Prop} (hc : Rows P row args w R) : RowsIn F n P row args w R := by
  rcases h with rfl | ⟨l, rfl⟩
  · exact fun c cs _ => let ⟨v, w', r, s⟩ := hc c cs; ⟨v, w', r, stepsIn_wide.2 s⟩
  · exact fun c cs _ => let ⟨v, w', r, s⟩ := hc c cs; ⟨v, w', r, stepsIn_wide.2 s⟩

/-- An operation that is no defer statement: its plain walk serves inside a fence that forbids nothing. -/
theorem wpIn_of_wp (hF : Free F) {o : Oper} {a : Act} {w : World} {K K' : Act → World → Prop} {Q : Exit → Act → World → Prop} (hnd : ∀ c, o.op ≠ .defer c) (hK : ∀ a w, K a w → K' a w)
    (h : o.wp P a w K Q) : o.wpIn F n P a w K' Q := by
  refine ⟨fun f _ => hF.fn f, ?_⟩
  rw [Oper.semAt_plain F _ _ hnd]
  unfold Oper.wp at h
  generalize (execOp a.eval o).run P w = r at h ⊢
  have hd : ¬ F.depth.isSome = true := by rw [hF.depth]; simp
  cases r with
  | ok x w' =>
    cases x with
    | value v => exact hK _ _ h
    | skip => exact hK _ _ h
    | defer d => exact hK _ _ h
    | enter f args =>
      refine ⟨fun e => absurd e hd, hF.calls (h.mono fun e w'' hr => ?_)⟩
      cases e with
      | returned v => exact hK _ _ hr
      | panicked c => exact hr
      | outgrown => exact hr
    | row row args => exact ⟨fun e => absurd e hd, hF.rows (h.mono fun v w'' hr => hK _ _ hr)⟩
    | _ => exact (h : False).elim
  | halt x w' =>
    cases x with
    | panic v => exact h
    | _ => exact (h : False).elim

def noDefer (l : List Oper) : Bool := l.all fun o => match o.op with | .defer _ => false | _ => true
theorem noDefer_op {o : Oper} (h : (match o.op with | .defer _ => false | _ => true) = true) : ∀ c, o.op ≠ .defer c := fun c e => by rw [e] at h; cases h

theorem wpListIn_of (hF : Free F) {ops : Array Oper} {Q : Exit → Act → World → Prop} (hQ : ¬ LetsOut Q) : ∀ {l : List Oper} {a : Act} {w : World}, noDefer l = true → wpList P ops Q l a w → wpListIn F n P ops Q l a w
  | [], a, w, _, h => h
  | o :: l, a, w, hnd, h => by
    have hnd' := hnd
    simp only [noDefer, List.all_cons, Bool.and_eq_true] at hnd'
    simp only [wpList] at h
    simp only [wpListIn]
    split
    · rename_i hw
      rw [if_pos hw] at h
      rcases h with h | ⟨_, h⟩
      · exact wpIn_of_wp hF (noDefer_op hnd'.1) (fun a w hk => wpListIn_of hF hQ (l := l) hnd'.2 hk) h
      · exact absurd h hQ
    · rename_i hw
      rw [if_neg hw] at h
      exact ⟨fun f _ => hF.fn f, wpListIn_of hF hQ (l := l) hnd'.2 h⟩

theorem wpOpsIn_of (hF : Free F) {ops : Array Oper} {Q : Exit → Act → World → Prop} (hQ : ¬ LetsOut Q) (hnd : noDefer ops.toList = true) : ∀ {l : List Nat} {a : Act} {w : World}, wpOps P ops Q l a w → wpOpsIn F n P ops Q l a w
  | [], a, w, h => h
  | i :: l, a, w, h => by
    simp only [wpOps] at h
    simp only [wpOpsIn]
    cases ho : ops[i]? with
    | none => simp only [ho] at h; exact wpOpsIn_of hF hQ hnd h
    | some o =>
      simp only [ho] at h
      have hod : ∀ c, o.op ≠ .defer c := noDefer_op (by
        have := List.all_eq_true.1 hnd o (by
          have := Array.mem_of_getElem? ho
          simpa using this)
        exact this)
      simp only []
      split
      · rename_i hw
        rw [if_pos hw] at h
        rcases h with h | ⟨_, h⟩
        · exact wpIn_of_wp hF hod (fun a w hk => wpOpsIn_of hF hQ hnd hk) h
        · exact absurd h hQ
      · rename_i hw
        rw [if_neg hw] at h
        exact ⟨fun f _ => hF.fn f, wpOpsIn_of hF hQ hnd h⟩

/-- A region in the order of its text. -/
theorem wpIn_region_of (hF : Free F) {id : Nat} {l : List Oper} {Q : Exit → Act → World → Prop} {a : Act} {w : World} (hnd : noDefer l = true) (hQ : ¬ LetsOut Q) (h : wpList P l.toArray Q l a w) :
    (Code.region id l.toArray false).wpIn F n P Q a w :=
  wpIn_region_lit (wpListIn_of hF hQ hnd h)
/-- A region that draws its order and reads, its calls quiet. -/
theorem wpIn_region_quiet_of (hF : Free F) {id : Nat} {Q : Exit → Act → World → Prop} {a : Act} {w : World} {l : List Oper} (hnd : noDefer l = true) (hQ : ¬ LetsOut Q) (hm : P.follows .mixedOrders = true) (hB : Region.lexB .any l.toArray = true)
    (h : wpQuiet P l.toArray (fun w' => ∃ n, w' = w.drewN n) (fun a' => ∀ w', (∃ n, w' = w.drewN n) → Q .normal a' w') l a) : (Code.region id l.toArray true).wpIn F n P Q a w := by
  refine wpIn_region_draw fun t => wpOpsIn_of hF hQ (by simpa using hnd) ?_
  simp only [Region.schedule, hm, Bool.true_or, if_true]
  simp only [Region.lexB, Bool.and_eq_true] at hB
  refine wpAny_sound _ t _ a _ (wpAny_of_quiet (Q := fun a' => ∀ w', (∃ n, w' = w.drewN n) → Q .normal a' w') (fun _ w' hw' h => h w' hw') _ _ _ _ ⟨1, rfl⟩ ?_)
  have := wpAnyQ_lex (C := fun w' => ∃ n, w' = w.drewN n) (md := .any) hB.1 l.toArray.toList 0 (Array.replicate l.toArray.size false) a (by simp) (by simpa using hB.2) (by simpa using h)
  simpa using this
/-- A region that draws its order: every order that may be drawn. -/
theorem wpIn_region_any_of (hF : Free F) {id : Nat} {Q : Exit → Act → World → Prop} {a : Act} {w : World} {ops : Array Oper} (hnd : noDefer ops.toList = true) (hQ : ¬ LetsOut Q) (hm : P.follows .mixedOrders = true)
    (h : wpAny P .any ops Q ops.size (Array.replicate ops.size false) a { w with drawn := w.drawn + 1 }) : (Code.region id ops true).wpIn F n P Q a w := by
  refine wpIn_region_draw fun t => wpOpsIn_of hF hQ hnd ?_
  simp only [Region.schedule, hm, Bool.true_or, if_true]
  exact wpAny_sound _ t _ a _ h
end

section
variable {F : Fence} {n : Nat} {P : Program} {md : Region.Mode} {ops : Array Oper} {w : World}
theorem wpOpIn_of_stOp (hF : Free F) (hnd : noDefer ops.toList = true) {i : Nat} {a : Act} {K : Act → Prop} {K' : Act → World → Prop} {Q' : Exit → Act → World → Prop} (h : ∀ a, K a → K' a w) (hh : stOp P ops w i K a) : wpOpIn F n P ops Q' i K' a w := by
  unfold stOp at hh
  unfold wpOpIn
  split
  · rename_i ho; simp only [ho] at hh; exact h _ hh
  · rename_i o ho
    simp only [ho] at hh
    split
    · rename_i hw
      simp only [hw, if_true] at hh
      have hod : ∀ c, o.op ≠ .defer c := noDefer_op (List.all_eq_true.1 hnd o (by
        have := Array.mem_of_getElem? ho
        simpa using this))
      exact wpIn_of_wp hF hod (fun _ _ hk => hk) (Oper.wp_of_still h hh)
    · rename_i hw; simp only [hw] at hh; exact ⟨fun f _ => hF.fn f, h _ hh⟩

theorem wpAnyIn_of_head (hF : Free F) (hnd : noDefer ops.toList = true) {k g : Nat} {L : Array Bool → Act → Prop} {Q' : Exit → Act → World → Prop} (hL : ∀ listed a, L listed a → wpAnyIn F n P md ops Q' g listed a w) :
    ∀ (f : Nat) (listed : Array Bool) (a : Act), wpAnyL P md ops w k L f listed a → wpAnyIn F n P md ops Q' (f + g) listed a w
  | 0, listed, a, h => by rw [Nat.zero_add]; exact hL _ _ h
  | f + 1, listed, a, h => by
    rw [show f + 1 + g = (f + g) + 1 by omega]
    exact ⟨fun h0 => absurd h0 h.1, fun i hi => wpOpIn_of_stOp hF hnd (fun a' h' => wpAnyIn_of_head hF hnd hL f _ a' h') (h.2 i hi).2⟩

theorem wpAnyIn_of_seq {Q' : Exit → Act → World → Prop} : ∀ (l : List Oper) (k : Nat) (listed : Array Bool) (a : Act) (w : World), (∀ j, l[j]? = ops[k + j]?) →
    Region.seqB md ops l.length k listed = true → wpListIn F n P ops Q' l a w → wpAnyIn F n P md ops Q' l.length listed a w
  | [], _, _, _, _, _, hB, h => ⟨by simpa [Region.seqB] using hB, h⟩
  | o :: l, k, listed, a, w, hl, hB, h => by
    have h0 : ops[k]? = some o := by simpa using (hl 0).symm
    simp only [List.length_cons, Region.seqB, Bool.and_eq_true, decide_eq_true_eq] at hB
    refine ⟨fun h1 => (by rw [hB.1] at h1; cases h1), fun i hi => ?_⟩
    rw [hB.1] at hi
    obtain rfl : i = k := by simpa using hi
    have hw : wpOpIn F n P ops Q' i (wpListIn F n P ops Q' l) a w := by unfold wpOpIn; simp only [h0]; exact h
    exact wpOpIn_mono (fun a' w' h' => wpAnyIn_of_seq l (i + 1) _ a' w' (fun j => by have := hl (j + 1); simpa [Nat.add_assoc, Nat.add_comm 1 j] using this) hB.2 h') hw

/-- A region that draws its order: reads and quiet calls, then a tail in one forced order, a call of yield among it. -/
theorem wpIn_region_tail (hF : Free F) {id : Nat} {Q : Exit → Act → World → Prop} {a : Act} {l : List Oper} (k : Nat) (hnd : noDefer l = true) (hm : P.follows .mixedOrders = true) (hB : Region.lexTailB .any l.toArray k = true)
    (h : wpStill P l.toArray { w with drawn := w.drawn + 1 } (fun a' => wpListIn F n P l.toArray Q (l.drop k) a' { w with drawn := w.drawn + 1 }) (l.take k) a) : (Code.region id l.toArray true).wpIn F n P Q a w := by
  simp only [Region.lexTailB, Bool.and_eq_true, decide_eq_true_eq] at hB
  obtain ⟨⟨⟨⟨hsel, hn⟩, hs⟩, hc⟩, hlex⟩ := hB
  have htl : (l.take k).length = k := by simp at hn ⊢; omega
  have hdl : (l.drop k).length = l.toArray.size - k := by simp
  have inv : HeadInv .any l.toArray k (Array.replicate l.toArray.size false) :=
    ⟨by simp, fun j oj _ hl => (by rw [getD_replicate_false] at hl; cases hl), fun t _ ht => getD_in (by simpa using ht) (getD_replicate_false _ _)⟩
  have H := wpAnyL_lex (md := .any) (g := l.toArray.size - k) hsel hs hc hn (l.take k) 0 _ a (fun j hj => by
    have hj' : j < k := by rw [htl] at hj; exact hj
    simp [hj']) (by simpa using htl) inv (by rw [htl]; exact hlex) h
  refine wpIn_region_any hm ?_
  have := wpAnyIn_of_head (F := F) (n := n) (Q' := Q) (g := l.toArray.size - k) hF (by simpa using hnd) (fun listed a' hL => by
    have := wpAnyIn_of_seq (F := F) (n := n) (md := .any) (Q' := Q) (l.drop k) k listed a' { w with drawn := w.drawn + 1 } (fun j => by simp [List.getElem?_drop]) (by rw [hdl]; exact hL.1) hL.2
    rwa [hdl] at this) _ _ _ H
  rw [htl, show k + (l.toArray.size - k) = l.toArray.size by simp at hn ⊢; omega] at this
  exact this
end

/-- A function whose body holds a range over a function. -/
theorem calls_of_wp_marks {P : Program} {f : FuncId} {fn : Func} {c : Code} {args : Array Value} {w : World} {R : Ending → World → Prop} (hf : P.funcs[f]? = some fn) (hb : fn.body = some c)
    (h : c.wp P (bodyPostM Fence.wide 5 P fn R) { tmps := args ++ Array.replicate (fn.ntmps - args.size) undef, defers := [] } w) : Calls P f args w R :=
  (callsIn_wide (n := 5)).1 (callsIn_of_wp_marks hf hb trivial (wpIn_wide.2 h))

/-! ### What a turn of the law's own books leaves as it lay -/
/-- New blocks may have been laid; of those that lay, one at most has turned: it lies from B on and holds no cells. -/
def Calm (B : Nat) (W W' : World) : Prop := ∃ row, W.grownBy W' row ∧ ∀ r, row = some r → B ≤ r ∧ ∃ o : Obj, W.heap[r]? = some o ∧ o.isCells = false
section
variable {W W' w : World} {B : Nat}
theorem Calm.size (h : Calm B W W') : W.heap.size ≤ W'.heap.size := h.choose_spec.1.size
theorem Calm.blk (h : Calm B W W') {g : Nat} {t : TypeId} {cs : Array Value} (hb : Blk W g t cs) : Blk W' g t cs := by
  obtain ⟨row, hg, hr⟩ := h
  refine hb.grown hg fun e => ?_
  obtain ⟨_, o, ho, hc⟩ := hr g e.symm
  rw [show W.heap[g]? = _ from hb] at ho
  cases ho
  cases hc
theorem Calm.cell (h : Calm B W W') {p : Addr} {v : Value} (hp : W.cell? p = some v) : W'.cell? p = some v := by
  obtain ⟨row, hg, hr⟩ := h
  exact cell_kept hp hg fun r e => (hr r e).2
theorem Calm.below (h : Calm B W W') {n₀ : Nat} (hb : Below n₀ w W) (hn : n₀ ≤ B) (hw : n₀ ≤ w.heap.size) : Below n₀ w W' := by
  obtain ⟨row, hg, hr⟩ := h
  exact hb.grown hg (Nat.le_trans hw hb.size) fun k e => Nat.le_trans hn (hr k e).1
theorem Calm.row (h : Calm B W W') {base : Nat} {e : TypeId} {size : Nat} {A : Option Addr} {n c : Nat} {xs : List Value} (hr : Row W base e size A n c xs) : Row W' base e size A n c xs :=
  ⟨hr.1, hr.2.1, hr.2.2.1, fun hc => by
    obtain ⟨g, cur, e1, hg, hb, hs, ht⟩ := hr.2.2.2 hc
    exact ⟨g, cur, e1, hg, h.blk hb, hs, ht⟩⟩
theorem Calm.sl (h : Calm B W W') {base size : Nat} {A : Option Addr} {n c : Nat} {xs : List Value} (hr : Sl W base size A n c xs) : Sl W' base size A n c xs :=
  ⟨hr.1, hr.2.1, hr.2.2.1, fun hc => by
    obtain ⟨b, off, e1, hb, hj⟩ := hr.2.2.2 hc
    exact ⟨b, off, e1, hb, fun j u hu => h.cell (hj j u hu)⟩⟩
theorem Calm.of_below (hb : Below W.heap.size W W') : Calm B W W' := ⟨none, ⟨hb.os, hb.tape, hb.output, hb.size, fun k hk _ => hb.block k hk⟩, fun r e => by cases e⟩
theorem Calm.keeps (h : Calm B W W') : True := trivial
theorem ownFrom_of {β : Type} {I : β → World → Prop} (h : ∀ s W W', I s W → Calm B W W' → I s W') : OwnFrom B I := fun s W W' row hs hg hr => h s W W' hs ⟨row, hg, hr⟩
theorem OwnFrom.calm {β : Type} {I : β → World → Prop} (h : OwnFrom B I) {s : β} (hs : I s W) (hc : Calm B W W') : I s W' := by
  obtain ⟨row, hg, hr⟩ := hc
  exact h s W W' row hs hg hr
theorem calm_putObj {l : Nat} {o : Obj} (o' : Obj) (hB : B ≤ l) (hl : W.heap[l]? = some o) (ho : o.isCells = false) : Calm B W (W.putObj l o') :=
  ⟨some l, grownBy_putObj' W l o', fun r e => by cases e; exact ⟨hB, o, hl, ho⟩⟩
theorem calm_alloc (o : Obj) : Calm B W (W.alloc o) := ⟨none, World.grownBy_alloc W o none, fun r e => by cases e⟩
/-- What lies below the new blocks stands: what is no cells and lies there stands. -/
theorem keepsFrom_below (h : Below W.heap.size W W') : KeepsFrom B W W' := ⟨h.size, fun k o _ hk _ => (h.block k (Array.getElem?_eq_some_iff.1 hk).1).trans hk⟩
/-- A turn of one block of cells. -/
theorem keepsFrom_grown {g : Nat} {t : TypeId} {cs : Array Value} (hb : Blk W g t cs) (hg : W.grownBy W' (some g)) : KeepsFrom B W W' :=
  (KeepsOthers.of_grownBy hg fun j o e hj => by
    cases e
    rw [show W.heap[g]? = _ from hb] at hj
    cases hj
    rfl).from B
theorem keepsFrom_none (hg : W.grownBy W' none) : KeepsFrom B W W' := (KeepsOthers.of_grownBy hg fun j o e _ => by cases e).from B
end

/-! ### What a round keeps: all that is not the caller's own -/
/-- O: the blocks that are the caller's own, and may be written; O' those behind a step: what it has laid itself may be among them. -/
structure Kept (O O' : Nat → Prop) (W W' : World) : Prop where
  size : W.heap.size ≤ W'.heap.size
  own : ∀ k, O' k → O k ∨ W.heap.size ≤ k
  same : ∀ k, k < W.heap.size → ¬ O k → W'.heap[k]? = W.heap[k]?
section
variable {O O' O2 : Nat → Prop} {W W' W2 : World}
theorem Kept.refl (O : Nat → Prop) (W : World) : Kept O O W W := ⟨Nat.le_refl _, fun _ h => .inl h, fun _ _ _ => rfl⟩
theorem Kept.trans (h : Kept O O' W W') (k : Kept O' O2 W' W2) : Kept O O2 W W2 :=
  ⟨Nat.le_trans h.size k.size, fun i hi => by
    rcases k.own i hi with h1 | h1
    · exact h.own i h1
    · exact .inr (Nat.le_trans h.size h1),
  fun i hi ho => by
    rw [k.same i (Nat.lt_of_lt_of_le hi h.size) (fun h1 => by
      rcases h.own i h1 with h2 | h2
      · exact ho h2
      · omega)]
    exact h.same i hi ho⟩
theorem Kept.below (h : Below W.heap.size W W') : Kept O O W W' := ⟨h.size, fun _ h => .inl h, fun k hk _ => h.block k hk⟩
theorem Kept.alloc (o : Obj) : Kept O O W (W.alloc o) := Kept.below ((Below.refl _ _).alloc (Nat.le_refl _) _)
theorem Kept.drewN (n : Nat) : Kept O O W (W.drewN n) := ⟨Nat.le_refl _, fun _ h => .inl h, fun _ _ _ => rfl⟩
theorem Kept.grown {g : Nat} (hg : W.grownBy W' (some g)) (ho : O g) : Kept O O W W' := ⟨hg.size, fun _ h => .inl h, fun k hk hn => hg.block k hk (fun e => hn (by cases e; exact ho))⟩
theorem Kept.grownNone (hg : W.grownBy W' none) : Kept O O W W' := ⟨hg.size, fun _ h => .inl h, fun k hk hn => hg.block k hk (fun e => by cases e)⟩
theorem Kept.setCell {g : Nat} (ho : O g) (i : Nat) (v : Value) : Kept O O W (W.setCell ⟨g, i, none⟩ v) := Kept.grown (grownBy_setCell W g i v) ho
/-- What the step has laid becomes one's own. -/
theorem Kept.gain (h : Kept O O W W') (g : Nat) (hg : W.heap.size ≤ g) : Kept O (fun k => O k ∨ k = g) W W' :=
  ⟨h.size, fun k hk => hk.elim (fun h => .inl h) (fun e => .inr (by rw [e]; exact hg)), h.same⟩
theorem Kept.blk (h : Kept O O' W W') {g : Nat} {t : TypeId} {cs : Array Value} (hb : Blk W g t cs) (ho : ¬ O g) : Blk W' g t cs := (h.same g hb.lt ho).trans hb
theorem Kept.far (h : Kept O O' W W') {g : Nat} (hg : g < W.heap.size) (ho : ¬ O g) : ¬ O' g := fun e => by
  rcases h.own g e with h1 | h1
  · exact ho h1
  · omega
theorem Kept.row (h : Kept O O' W W') {base : Nat} {e : TypeId} {size : Nat} {A : Option Addr} {n c : Nat} {xs : List Value} (hr : Row W base e size A n c xs) (ho : ∀ g, A = some ⟨g, 0, none⟩ → 0 < c → ¬ O g) : Row W' base e size A n c xs :=
  ⟨hr.1, hr.2.1, hr.2.2.1, fun hc => by
    obtain ⟨g, cur, e1, hg, hb, hs, ht⟩ := hr.2.2.2 hc
    exact ⟨g, cur, e1, hg, h.blk hb (ho g e1 hc), hs, ht⟩⟩
end

/-- What lies from B on and is not the caller's own is kept. -/
structure KeptFrom (B : Nat) (O : Nat → Prop) (W W' : World) : Prop where
  size : W.heap.size ≤ W'.heap.size
  same : ∀ k, B ≤ k → k < W.heap.size → ¬ O k → W'.heap[k]? = W.heap[k]?
theorem Kept.from_ {O O' : Nat → Prop} {W W' : World} (h : Kept O O' W W') (B : Nat) : KeptFrom B O W W' := ⟨h.size, fun k _ hk ho => h.same k hk ho⟩
theorem KeptFrom.mono {B B' : Nat} {O : Nat → Prop} {W W' : World} (h : KeptFrom B O W W') (hB : B ≤ B') : KeptFrom B' O W W' := ⟨h.size, fun k h1 hk ho => h.same k (Nat.le_trans hB h1) hk ho⟩
theorem Kept.transFrom {B : Nat} {O O' : Nat → Prop} {W W' W2 : World} (h : Kept O O' W W') (k : KeptFrom B O' W' W2) : KeptFrom B O W W2 :=
  ⟨Nat.le_trans h.size k.size, fun i h1 hi ho => by
    rw [k.same i h1 (Nat.lt_of_lt_of_le hi h.size) (fun h2 => by
      rcases h.own i h2 with h3 | h3
      · exact ho h3
      · omega)]
    exact h.same i hi ho⟩

/-! ### The contract of an iterator, and the law for its caller -/
/-- What an iterator (function gf over lb) does: it hands 'encs x' for the x's, as long as each round says yes; of an x that is handed out 'G' holds. 'S': all have come; 'Sp': a round has said no. A round may write the caller's own blocks alone; at the start they are among those that 'Ok' lets. -/
def Iter {α : Type} (P : Program) (gf : Nat) (lb : Array Value) (encs : α → Array Value) (Ok : Nat → Prop) (G : List α → α → World → Prop) (S Sp : List α → Prop) (w : World) : Prop :=
  ∀ (l : Nat) (J : (Nat → Prop) → List α → World → Prop) (Jx : List α → World → Prop) (O : Nat → Prop) (W : World), Below w.heap.size w W → (∀ O, OwnFrom W.heap.size (J O)) → OwnFrom W.heap.size Jx → (∀ k, O k → Ok k ∧ k < W.heap.size) →
    (∀ O pre x W1, J O pre W1 → G pre x W1 → YieldAt Fence.wide 3 P l (encs x) W1 fun e W' =>
      (e = .returned (.bool true) ∧ ∃ O', J O' (pre ++ [x]) W' ∧ Kept O O' W1 W') ∨ (e = .returned (.bool false) ∧ KeptFrom W.heap.size O W1 W' ∧ Jx (pre ++ [x]) W')) →
    J O [] W →
    CallsIn Fence.wide 4 P gf (#[.func (.yield l) #[] #[]] ++ lb) W fun e W' => (∃ v, e = .returned v) ∧ ((∃ O' xs, S xs ∧ J O' xs W') ∨ (∃ pre, Sp pre ∧ Jx pre W'))

/-- How a round's body may be left. -/
def Left {α : Type} (B : Nat) (I : (Nat → Prop) → List α → World → Prop) (Ix : Code → List α → World → Prop) (O : Nat → Prop) (xs : List α) (W : World) : Exit → Act → World → Prop
  | .normal, _, W' => ∃ O', Kept O O' W W' ∧ I O' xs W'
  | .ret, _, W' => KeptFrom B O W W' ∧ Ix .ret xs W'
  | .exit id, _, W' => KeptFrom B O W W' ∧ Ix (.exit id) xs W'
  | _, _, _ => False
theorem left_out {α : Type} {B : Nat} {I : (Nat → Prop) → List α → World → Prop} {Ix : Code → List α → World → Prop} {O : Nat → Prop} {xs : List α} {W : World} : ¬ LetsOut (Left B I Ix O xs W) := fun ⟨_, _, h⟩ => h

/-- 'for .. := range seq { .. }' at a plain caller. -/
theorem wp_range {α : Type} {P : Program} {g : Operand} {ps : Array Tmp} {assign body : Code} {Q : Exit → Act → World → Prop} {a : Act} {w : World}
    {gf : Nat} {lb : Array Value} (hg : a.eval g = .func (.func gf) #[] lb) (eg : Enters P gf) {encs : α → Array Value} {Ok : Nat → Prop} {G : List α → α → World → Prop} {S Sp : List α → Prop} {w0 : World}
    (hseq : Iter P gf lb encs Ok G S Sp w0) (hb0 : Below w0.heap.size w0 w) (hps : ∀ x, (encs x).size = ps.size)
    (O : Nat → Prop) (hO : ∀ k, O k → Ok k ∧ k < w.heap.size)
    (I : (Nat → Prop) → List α → World → Prop) (Ix : Code → List α → World → Prop) (hI : ∀ O, OwnFrom w.heap.size (I O)) (hIx : ∀ c, OwnFrom w.heap.size (Ix c)) (h0 : I O [] w)
    (Ax : (Nat → Prop) → List α → α → Act → World → Prop) (hAx : ∀ O pre x a', OwnFrom w.heap.size (fun (_ : Unit) W => Ax O pre x a' W))
    (hassign : ∀ (l : Nat) (O : Nat → Prop) (pre : List α) (x : α) (W : World) (K : Act → World → Prop), I O pre W → G pre x W → (∀ O1 a' W', Kept O O1 W W' → Ax O1 pre x a' W' → K a' W') →
      assign.wpIn (Rd l) 3 P (Exit.then K (fun _ _ _ => False)) { tmps := (ps.zip (encs x)).foldl (fun t (p, v) => t.setIfInBounds p v) a.tmps, defers := [] } W)
    (hbody : ∀ (l : Nat) (O : Nat → Prop) (pre : List α) (x : α) (a' : Act) (W : World), Ax O pre x a' W → body.wpIn (Rd l) 3 P (Left w.heap.size I Ix O (pre ++ [x]) W) a' W)
    (hdone : ∀ (D : Nat) (O : Nat → Prop) (xs : List α) (W : World), w.heap.size ≤ D → S xs → I O xs W → W.heap[D]? = some (.deferred (some [])) → Q .normal { a with defers := { target := .collected D, args := #[] } :: a.defers } W)
    (hstop : ∀ (D : Nat) (c : Code) (pre : List α) (W : World), w.heap.size ≤ D → Sp pre → Ix c pre W → W.heap[D]? = some (.deferred (some [])) → c.wp P Q { a with defers := { target := .collected D, args := #[] } :: a.defers } W) :
    (Code.rangeFunc g ps assign body).wp P Q a w := by
  refine (wpIn_wide (n := 5)).1 (wpIn_rangeFunc fun fn hfn => ?_)
  -- the two blocks of the law's books: D for the rounds' deferred calls, L the loop's record
  let rc : LoopState → Option Code → Loop := fun st pe => { state := st, pending := pe, fn, tmps := a.tmps, params := ps, assign, body, defers := w.heap.size }
  let W1 : World := (w.alloc (.deferred (some []))).alloc (.loop (rc .ready none))
  have eL : W1.heap[w.heap.size + 1]? = some (.loop (rc .ready none)) := by
    have := World.alloc_heap_new (w.alloc (.deferred (some []))) (.loop (rc .ready none))
    rwa [World.size_alloc] at this
  have eD : W1.heap[w.heap.size]? = some (.deferred (some [])) := (Below.heap_alloc _ _ _ (by simp)).trans (World.alloc_heap_new w _)
  have z1 : W1.heap.size = w.heap.size + 2 := by simp [W1]
  have b1 : Below w0.heap.size w0 W1 := hb0.trans ((((Below.refl _ w).alloc (Nat.le_refl _) _).alloc (by simp) _).mono hb0.size)
  have i1 : I O [] W1 := (hI O).alloc _ ((hI O).alloc _ h0)
  refine ⟨w.heap.size + 1, [{ target := .collected w.heap.size, args := #[] }], W1, { target := .fn (.func gf) lb, args := #[.func (.yield (w.heap.size + 1)) #[] #[]] }, W1, gf,
    #[.func (.yield (w.heap.size + 1)) #[] #[]] ++ lb, W1, run_enterLoop_outer _ _ _ _ _, ?_, ?_, ?_, fun _ => by decide, ?_⟩
  · simp only [resolve, hg]
    simp [go_sem]
  · intro _ _; trivial
  · simp only [invoke, go_sem]
    exact eg _ _
  -- where the books stand while the iterator runs; where they stand when a round has said no
  let Bk : (Nat → Prop) → World → Prop := fun O W => W.heap[w.heap.size + 1]? = some (.loop (rc .ready none)) ∧ W.heap[w.heap.size]? = some (.deferred (some [])) ∧ ¬ O w.heap.size ∧ ¬ O (w.heap.size + 1)
  let Bx : Code → World → Prop := fun c W => W.heap[w.heap.size + 1]? = some (.loop (rc .done (some c))) ∧ W.heap[w.heap.size]? = some (.deferred (some []))
  have far : ∀ {A A' : World} {row : Option Nat} {k : Nat}, A.grownBy A' row → (∀ r, row = some r → W1.heap.size ≤ r ∧ ∃ o : Obj, A.heap[r]? = some o ∧ o.isCells = false) → ∀ {o : Obj}, k < w.heap.size + 2 → A.heap[k]? = some o → A'.heap[k]? = some o :=
    fun {A A' row k} hgr hr {o} hk ho => (hgr.block k (Array.getElem?_eq_some_iff.1 ho).1 fun e => by have := (hr k e.symm).1; omega).trans ho
  have lift : ∀ {A : World} {row : Option Nat}, (∀ r, row = some r → W1.heap.size ≤ r ∧ ∃ o : Obj, A.heap[r]? = some o ∧ o.isCells = false) → ∀ r, row = some r → w.heap.size ≤ r ∧ ∃ o : Obj, A.heap[r]? = some o ∧ o.isCells = false :=
    fun hr r e => ⟨by have := (hr r e).1; omega, (hr r e).2⟩
  refine (hseq (w.heap.size + 1) (fun O pre W => I O pre W ∧ Bk O W) (fun pre W => ∃ c, Ix c pre W ∧ Bx c W) O W1 b1 ?_ ?_ ?_ ?_ ⟨i1, eL, eD, fun h => by have := (hO _ h).2; omega, fun h => by have := (hO _ h).2; omega⟩).mono ?_
  · exact fun O s A A' row hs hgr hr => ⟨hI O s A A' row hs.1 hgr (lift hr), far hgr hr (by omega) hs.2.1, far hgr hr (by omega) hs.2.2.1, hs.2.2.2⟩
  · rintro s A A' row ⟨c, hc, hb⟩ hgr hr
    exact ⟨c, hIx c s A A' row hc hgr (lift hr), far hgr hr (by omega) hb.1, far hgr hr (by omega) hb.2⟩
  · exact fun k hk => ⟨(hO k hk).1, by have := (hO k hk).2; omega⟩
  · rintro O pre x W ⟨hi, hl, hd, hod, hol⟩ hG
    refine ⟨fn, _, assign, body, run_yield hl (hps x), roundIn_of_wpIn hfn (hassign _ O pre x W _ hi hG fun O1 a' Wa ka hax => ?_)⟩
    have hlW : w.heap.size + 1 < W.heap.size := (Array.getElem?_eq_some_iff.1 hl).1
    have hl' := (ka.same _ hlW hol).trans hl
    have hd' := (ka.same _ (by omega) hod).trans hd
    have hlt : w.heap.size + 1 < Wa.heap.size := Nat.lt_of_lt_of_le hlW ka.size
    have hod1 : ¬ O1 w.heap.size := ka.far (by omega) hod
    have hol1 : ¬ O1 (w.heap.size + 1) := ka.far hlW hol
    refine ⟨_, run_beginRound hl' rfl, ?_⟩
    let Wb : World := Wa.putObj (w.heap.size + 1) (.loop { rc .ready none with state := .busy })
    have hlb : Wb.heap[w.heap.size + 1]? = some (.loop { rc .ready none with state := .busy }) := World.putObj_heap_same hlt
    have hdb : Wb.heap[w.heap.size]? = some (.deferred (some [])) := (World.putObj_heap_other (by omega)).trans hd'
    have hbs : Wb.heap.size = Wa.heap.size := World.putObj_size
    refine wpIn_mono (hbody _ O1 pre x a' Wb ((hAx O1 pre x a').putObj (s := ()) _ hax (Nat.le_succ _) hl' rfl)) ?_
    -- the round's end, whatever jump it leaves behind
    have fin : ∀ (jump : Option Code) (W3 : World), KeptFrom w.heap.size O1 Wb W3 → ∃ W4, W4 = W3.putObj (w.heap.size + 1) (.loop (rc (if jump.isNone then .ready else .done) jump)) ∧
        (Instr.endRound (w.heap.size + 1) jump).run P W3 = .ok (.bool jump.isNone) W4 ∧ Calm w.heap.size W3 W4 ∧
        W4.heap[w.heap.size + 1]? = some (.loop (rc (if jump.isNone then .ready else .done) jump)) ∧ W4.heap[w.heap.size]? = some (.deferred (some [])) := fun jump W3 k3 => by
      have h3 := (k3.same _ (by omega) (by omega) hol1).trans hlb
      exact ⟨_, rfl, run_endRound jump h3, calm_putObj _ (Nat.le_succ _) h3 rfl, World.putObj_heap_same (Array.getElem?_eq_some_iff.1 h3).1, (World.putObj_heap_other (by omega)).trans ((k3.same _ (Nat.le_refl _) (by omega) hod1).trans hdb)⟩
    have left4 : ∀ (W3 W4 : World) (ob : Obj), W4 = W3.putObj (w.heap.size + 1) ob → KeptFrom w.heap.size O1 Wb W3 → KeptFrom W1.heap.size O W W4 := fun W3 W4 ob e4 k3 => by
      refine ⟨by rw [e4, World.putObj_size]; exact Nat.le_trans ka.size (by rw [← hbs]; exact k3.size), fun k h1 hk hn => ?_⟩
      rw [z1] at h1
      have e1 : W4.heap[k]? = W3.heap[k]? := by rw [e4]; exact World.putObj_heap_other (by omega)
      have e2 : W3.heap[k]? = Wb.heap[k]? := k3.same k (by omega) (by rw [hbs]; exact Nat.lt_of_lt_of_le hk ka.size) (ka.far hk hn)
      have e3 : Wb.heap[k]? = Wa.heap[k]? := World.putObj_heap_other (by omega)
      rw [e1, e2, e3, ka.same k hk hn]
    rintro e a3 W3 hp
    cases e with
    | normal =>
      obtain ⟨O', k3, i3⟩ := hp
      obtain ⟨W4, e4, hr, c4, l4, d4⟩ := fin none W3 (k3.from_ _)
      have hs4 : W4.heap.size = W3.heap.size := by rw [e4]; exact World.putObj_size
      have k4 : Kept O O' W W4 := by
        refine ⟨by rw [hs4]; exact Nat.le_trans ka.size (by rw [← hbs]; exact k3.size), fun k hk => ?_, fun k hk hn => ?_⟩
        · rcases k3.own k hk with h1 | h1
          · exact ka.own k h1
          · exact .inr (Nat.le_trans ka.size (by rw [← hbs]; exact h1))
        · by_cases hkl : k = w.heap.size + 1
          · rw [hkl, l4, hl]; rfl
          · have h1 : W4.heap[k]? = W3.heap[k]? := by rw [e4]; exact World.putObj_heap_other hkl
            have h2 : W3.heap[k]? = Wb.heap[k]? := k3.same k (by rw [hbs]; exact Nat.lt_of_lt_of_le hk ka.size) (ka.far hk hn)
            have h3 : Wb.heap[k]? = Wa.heap[k]? := World.putObj_heap_other hkl
            rw [h1, h2, h3, ka.same k hk hn]
      exact ⟨_, _, hr, .inl ⟨rfl, O', ⟨OwnFrom.calm (hI O') i3 c4, l4, d4, k4.far (by omega) hod, k4.far hlW hol⟩, k4⟩⟩
    | ret =>
      obtain ⟨k3, i3⟩ := hp
      obtain ⟨W4, e4, hr, c4, l4, d4⟩ := fin (some .ret) W3 k3
      exact ⟨_, _, hr, .inr ⟨rfl, left4 W3 W4 _ e4 k3, .ret, OwnFrom.calm (hIx _) i3 c4, l4, d4⟩⟩
    | exit id =>
      obtain ⟨k3, i3⟩ := hp
      obtain ⟨W4, e4, hr, c4, l4, d4⟩ := fin (some (.exit id)) W3 k3
      exact ⟨_, _, hr, .inr ⟨rfl, left4 W3 W4 _ e4 k3, .exit id, OwnFrom.calm (hIx _) i3 c4, l4, d4⟩⟩
    | goto t => exact hp.elim
    | panic ch => exact hp.elim
    | outgrown => exact hp.elim
  · rintro e W2 ⟨⟨v, rfl⟩, ⟨O', xs, hS, hi, hl, hd, _⟩ | ⟨pre, hSp, c, hi, hl, hd⟩⟩
    · exact ⟨none, _, run_endLoop hl (by intro e; cases e), hdone _ O' xs _ (Nat.le_refl _) hS ((hI O').putObj _ hi (Nat.le_succ _) hl rfl) ((World.putObj_heap_other (by omega)).trans hd)⟩
    · exact ⟨some c, _, run_endLoop hl (by intro e; cases e), wpIn_wide.2 (hstop _ c pre _ (Nat.le_refl _) hSp ((hIx c).putObj _ hi (Nat.le_succ _) hl rfl) ((World.putObj_heap_other (by omega)).trans hd))⟩
end Go.Proofs.Ytbphoilfiahnpaa
