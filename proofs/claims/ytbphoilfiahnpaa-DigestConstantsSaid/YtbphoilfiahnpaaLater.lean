/-
  A region that draws its order and holds calls that make memory and hand back no address: one walk, in the order of its text, in whatever world lies behind.
-/
import Derived.Test.YtbphoilfiahnpaaArr
namespace Go.Proofs.Ytbphoilfiahnpaa
open Go.RowKit
set_option linter.unusedVariables false

/-- A world behind w0: what lay in w0 lies. -/
structure Later (w0 : World) where
  w : World
  below : Below w0.heap.size w0 w
instance (w0 : World) : Nonempty (Later w0) := ⟨⟨w0, Below.refl _ _⟩⟩
/-- The class of the worlds behind w0. -/
def Lt (w0 : World) (W : World) : Prop := ∃ X : Later w0, W = X.w

section
variable {P : Program} {w0 : World}
theorem Later.cell (X : Later w0) {g i : Nat} (h : g < w0.heap.size) : X.w.cell? ⟨g, i, none⟩ = w0.cell? ⟨g, i, none⟩ := X.below.cell h
theorem Later.blk (X : Later w0) {g : Nat} {t : TypeId} {cs : Array Value} (h : Blk w0 g t cs) : Blk X.w g t cs := h.below X.below h.lt
theorem Later.cells {g : Nat} {t : TypeId} {cs : Array Value} (h : Blk w0 g t cs) (i : Nat) {v : Value} (hv : cs[i]? = some v) : ∀ X : Later w0, X.w.cell? ⟨g, i, none⟩ = some v := fun X => by rw [(X.blk h).cell, hv]
theorem Later.sl (X : Later w0) {B size : Nat} {A : Option Addr} {n c : Nat} {xs : List Value} (h : Sl w0 B size A n c xs) (hB : B ≤ w0.heap.size) : Sl X.w B size A n c xs := h.below (X.below.mono hB)
/-- A call that makes memory and hands back the one value. -/
theorem Later.call (X : Later w0) {f : FuncId} {args : Array Value} {v : Value} (h : Calls P f args X.w fun e w' => e = .returned v ∧ Below X.w.heap.size X.w w') :
    Calls P f args X.w fun e w' => e = .returned v ∧ ∃ Y : Later w0, w' = Y.w :=
  h.mono fun _ w' ⟨he, hb⟩ => ⟨he, ⟨w', X.below.trans (hb.mono X.below.size)⟩, rfl⟩
/-- A call that only reads. -/
theorem Later.same (X : Later w0) {f : FuncId} {args : Array Value} {v : Value} (h : Calls P f args X.w fun e w' => e = .returned v ∧ X.w = w') :
    Calls P f args X.w fun e w' => e = .returned v ∧ ∃ Y : Later w0, w' = Y.w :=
  h.mono fun _ w' ⟨he, hb⟩ => ⟨he, X, hb.symm⟩

theorem wp_region_later {id : Nat} {Q : Exit → Act → World → Prop} {a : Act} {w : World} {l : List Oper} (hm : P.follows .mixedOrders = true) (hB : Region.lexB .any l.toArray = true)
    (h : wpQuiet P l.toArray (fun W => ∃ X : Later w, W = X.w) (fun a' => ∀ w', (∃ X : Later w, w' = X.w) → Q .normal a' w') l a) : (Code.region id l.toArray true).wp P Q a w :=
  wp_region_quiet (C := fun W => ∃ X : Later w, W = X.w) hm hB ⟨⟨_, (Below.refl _ _).drew⟩, rfl⟩ (by simpa using h)

/-- A whole array or struct loaded. -/
theorem quiet_load_agg {ops : Array Oper} {Q : Act → Prop} {a : Act} {o : Oper} {rest : List Oper} (hw : Region.wanted o (yielded ops a.tmps) = true) (T : TypeId) (x : Operand) (ho : o.op = .load T x) (g : Nat) (hx : a.eval x = .pointer (some ⟨g, 0, none⟩))
    (vs : Array Value) {n : Nat} (hT : AggT P T n) (hn : vs.size = n) (t : TypeId) (hb : Blk w0 g t vs) (h : wpQuiet P ops (fun W => ∃ X : Later w0, W = X.w) Q rest (a.put o.dst (.agg vs))) :
    wpQuiet P ops (fun W => ∃ X : Later w0, W = X.w) Q (o :: rest) a := by
  refine wpQuiet_step fun K hK => ?_
  rw [if_pos hw]
  refine ⟨_, ?_, hK _ h⟩
  rintro W ⟨X, rfl⟩
  unfold Oper.quietAt execOp
  have hl := run_loadVar_agg (P := P) (w := X.w) g 0 vs (hn ▸ hT) (fun j v hv => by rw [Nat.zero_add, (X.blk hb).cell]; exact hv)
  simp only [ho, hx, Instr.loadAt, Instr.sureAddr, Sem.run_bind, Sem.run_pure, Result.andThen_ok, hl]
  exact ⟨rfl, rfl⟩
/-- A composite value is built. -/
theorem quiet_build {ops : Array Oper} {Q : Act → Prop} {a : Act} {o : Oper} {rest : List Oper} (hw : Region.wanted o (yielded ops a.tmps) = true) (T : TypeId) (parts : Array (Nat × Operand)) (ho : o.op = .build T parts) (vs : Array (Nat × Value))
    (hp : (parts.map fun (i, x) => (i, a.eval x)) = vs) (v : Value) (hr : ∀ W, (Instr.build T vs).run P W = .ok v W) (h : wpQuiet P ops (fun W => ∃ X : Later w0, W = X.w) Q rest (a.put o.dst v)) :
    wpQuiet P ops (fun W => ∃ X : Later w0, W = X.w) Q (o :: rest) a := by
  refine wpQuiet_step fun K hK => ?_
  rw [if_pos hw]
  refine ⟨_, ?_, hK _ h⟩
  rintro W ⟨X, rfl⟩
  unfold Oper.quietAt execOp
  simp only [ho, hp, Sem.run_bind, hr, Result.andThen_ok, Sem.run_pure]
  exact ⟨rfl, rfl⟩
end
end Go.Proofs.Ytbphoilfiahnpaa
