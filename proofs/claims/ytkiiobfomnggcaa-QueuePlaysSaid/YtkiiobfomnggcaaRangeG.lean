/-
  The law of a range over a func whose iterator hands out memory of its own making, which the round may write: it becomes the caller's own (XBase's law, with that said).
-/
import Derived.Test.YtkiiobfomnggcaaBase
namespace Go.Proofs.Ytkiiobfomnggcaa
open Go.RowKit
set_option linter.unusedVariables false
set_option maxRecDepth 100000

/-- What an iterator (function gf over lb) does: it hands 'encs x' for the x's, as long as each round says yes; of an x that is handed out 'G' holds. 'S': all have come; 'Sp': a round has said no. A round may write the caller's own blocks alone; at the start they are among those that 'Ok' lets. -/
def IterG {α : Type} (P : Program) (gf : Nat) (lb : Array Value) (encs : α → Array Value) (Ok : Nat → Prop) (G : (Nat → Prop) → List α → α → World → Prop) (S Sp : List α → Prop) (w : World) : Prop :=
  ∀ (l : Nat) (J : (Nat → Prop) → List α → World → Prop) (Jx : List α → World → Prop) (O : Nat → Prop) (W : World), Below w.heap.size w W → (∀ O, OwnFrom W.heap.size (J O)) → OwnFrom W.heap.size Jx → (∀ O pre W1 W2 g, J O pre W1 → Below W1.heap.size W1 W2 → W1.heap.size ≤ g → J (fun k => O k ∨ k = g) pre W2) → (∀ k, O k → Ok k ∧ k < W.heap.size) →
    (∀ O pre x W1, J O pre W1 → G O pre x W1 → YieldAt Fence.wide 3 P l (encs x) W1 fun e W' =>
      (e = .returned (.bool true) ∧ ∃ O', J O' (pre ++ [x]) W' ∧ Kept O O' W1 W') ∨ (e = .returned (.bool false) ∧ KeptFrom W.heap.size O W1 W' ∧ Jx (pre ++ [x]) W')) →
    J O [] W →
    CallsIn Fence.wide 4 P gf (#[.func (.yield l) #[] #[]] ++ lb) W fun e W' => (∃ v, e = .returned v) ∧ ((∃ O' xs, S xs ∧ J O' xs W') ∨ (∃ pre, Sp pre ∧ Jx pre W'))


/-- 'for .. := range seq { .. }' at a plain caller. -/
theorem wp_rangeG {α : Type} {P : Program} {g : Operand} {ps : Array Tmp} {assign body : Code} {Q : Exit → Act → World → Prop} {a : Act} {w : World}
    {gf : Nat} {lb : Array Value} (hg : a.eval g = .func (.func gf) #[] lb) (eg : Enters P gf) {encs : α → Array Value} {Ok : Nat → Prop} {G : (Nat → Prop) → List α → α → World → Prop} {S Sp : List α → Prop} {w0 : World}
    (hseq : IterG P gf lb encs Ok G S Sp w0) (hb0 : Below w0.heap.size w0 w) (hps : ∀ x, (encs x).size = ps.size)
    (O : Nat → Prop) (hO : ∀ k, O k → Ok k ∧ k < w.heap.size)
    (I : (Nat → Prop) → List α → World → Prop) (Ix : Code → List α → World → Prop) (hI : ∀ O, OwnFrom w.heap.size (I O)) (hIx : ∀ c, OwnFrom w.heap.size (Ix c)) (hIm : ∀ O pre W1 W2 g, I O pre W1 → Below W1.heap.size W1 W2 → W1.heap.size ≤ g → I (fun k => O k ∨ k = g) pre W2) (h0 : I O [] w)
    (Ax : (Nat → Prop) → List α → α → Act → World → Prop) (hAx : ∀ O pre x a', OwnFrom w.heap.size (fun (_ : Unit) W => Ax O pre x a' W))
    (hassign : ∀ (l : Nat) (O : Nat → Prop) (pre : List α) (x : α) (W : World) (K : Act → World → Prop), I O pre W → G O pre x W → (∀ O1 a' W', Kept O O1 W W' → Ax O1 pre x a' W' → K a' W') →
      assign.wpIn (Rd l) 3 P (Exit.then K (fun _ _ _ => False)) { tmps := (ps.zip (encs x)).foldl (fun t (p, v) => t.setIfInBounds p v) a.tmps, defers := [] } W)
    (hbody : ∀ (l : Nat) (O : Nat → Prop) (pre : List α) (x : α) (a' : Act) (W : World), Ax O pre x a' W → body.wpIn (Rd l) 3 P (Left w.heap.size I Ix O (pre ++ [x]) W) a' W)
    (hdone : ∀ (D : Nat) (O : Nat → Prop) (xs : List α) (W : World), w.heap.size ≤ D → S xs → I O xs W → W.heap[D]? = some (.deferred (some [])) → Q .normal { a with defers := { target := .collected D, args := #[] } :: a.defers } W)
    (hstop : ∀ (D : Nat) (c : Code) (pre : List α) (W : World), w.heap.size ≤ D → Sp pre → Ix c pre W → W.heap[D]? = some (.deferred (some [])) → c.wp P Q { a with defers := { target := .collected D, args := #[] } :: a.defers } W) :
    (Code.rangeFunc g ps assign body).wp P Q a w := by
  refine (wpIn_wide (n := 5)).1 (wpIn_rangeFunc fun fn hfn => ?_)
  -- the two blocks of the law's books: D for the rounds' deferred calls, L the loop's record
  let rc : LoopState → Option Code → Loop := fun st pe => { state := st, pending := pe, fn, tmps := a.tmps, params := ps, assign, body, defers := w.heap.size }
  let W1 : World := (w.alloc (.deferred (some []))).alloc (.loop (rc .ready none))
  have eL : W1.heap[w.heap.size + 1]? = some (.loop (rc .ready none)) := by
    have := World.alloc_heap_new (w.alloc (.deferred (some []))) (.loop (rc .ready none))
    rwa [World.size_alloc] at this
  have eD : W1.heap[w.heap.size]? = some (.deferred (some [])) := (Below.heap_alloc _ _ _ (by simp)).trans (World.alloc_heap_new w _)
  have z1 : W1.heap.size = w.heap.size + 2 := by simp [W1]
  have b1 : Below w0.heap.size w0 W1 := hb0.trans ((((Below.refl _ w).alloc (Nat.le_refl _) _).alloc (by simp) _).mono hb0.size)
  have i1 : I O [] W1 := (hI O).alloc _ ((hI O).alloc _ h0)
  refine ⟨w.heap.size + 1, [{ target := .collected w.heap.size, args := #[] }], W1, { target := .fn (.func gf) lb, args := #[.func (.yield (w.heap.size + 1)) #[] #[]] }, W1, gf,
    #[.func (.yield (w.heap.size + 1)) #[] #[]] ++ lb, W1, run_enterLoop_outer _ _ _ _ _, ?_, ?_, ?_, fun _ => by decide, ?_⟩
  · simp only [resolve, hg]
    simp [go_sem]
  · intro _ _; trivial
  · simp only [invoke, go_sem]
    exact eg _ _
  -- where the books stand while the iterator runs; where they stand when a round has said no
  let Bk : (Nat → Prop) → World → Prop := fun O W => W.heap[w.heap.size + 1]? = some (.loop (rc .ready none)) ∧ W.heap[w.heap.size]? = some (.deferred (some [])) ∧ ¬ O w.heap.size ∧ ¬ O (w.heap.size + 1)
  let Bx : Code → World → Prop := fun c W => W.heap[w.heap.size + 1]? = some (.loop (rc .done (some c))) ∧ W.heap[w.heap.size]? = some (.deferred (some []))
  have far : ∀ {A A' : World} {row : Option Nat} {k : Nat}, A.grownBy A' row → (∀ r, row = some r → W1.heap.size ≤ r ∧ ∃ o : Obj, A.heap[r]? = some o ∧ o.isCells = false) → ∀ {o : Obj}, k < w.heap.size + 2 → A.heap[k]? = some o → A'.heap[k]? = some o :=
    fun {A A' row k} hgr hr {o} hk ho => (hgr.block k (Array.getElem?_eq_some_iff.1 ho).1 fun e => by have := (hr k e.symm).1; omega).trans ho
  have lift : ∀ {A : World} {row : Option Nat}, (∀ r, row = some r → W1.heap.size ≤ r ∧ ∃ o : Obj, A.heap[r]? = some o ∧ o.isCells = false) → ∀ r, row = some r → w.heap.size ≤ r ∧ ∃ o : Obj, A.heap[r]? = some o ∧ o.isCells = false :=
    fun hr r e => ⟨by have := (hr r e).1; omega, (hr r e).2⟩
  refine (hseq (w.heap.size + 1) (fun O pre W => I O pre W ∧ Bk O W) (fun pre W => ∃ c, Ix c pre W ∧ Bx c W) O W1 b1 ?_ ?_ ?_ ?_ ?_ ⟨i1, eL, eD, fun h => by have := (hO _ h).2; omega, fun h => by have := (hO _ h).2; omega⟩).mono ?_
  · exact fun O s A A' row hs hgr hr => ⟨hI O s A A' row hs.1 hgr (lift hr), far hgr hr (by omega) hs.2.1, far hgr hr (by omega) hs.2.2.1, hs.2.2.2⟩
  · rintro s A A' row ⟨c, hc, hb⟩ hgr hr
    exact ⟨c, hIx c s A A' row hc hgr (lift hr), far hgr hr (by omega) hb.1, far hgr hr (by omega) hb.2⟩
  · rintro O pre Wa Wb g ⟨hi, hl, hd, hod, hol⟩ hb hg
    have hl1 := (Array.getElem?_eq_some_iff.1 hl).1
    have hd1 := (Array.getElem?_eq_some_iff.1 hd).1
    exact ⟨hIm O pre Wa Wb g hi hb hg, (hb.block _ hl1).trans hl, (hb.block _ hd1).trans hd, fun h => h.elim hod (fun e => by omega), fun h => h.elim hol (fun e => by omega)⟩
  · exact fun k hk => ⟨(hO k hk).1, by have := (hO k hk).2; omega⟩
  · rintro O pre x W ⟨hi, hl, hd, hod, hol⟩ hG
    refine ⟨fn, _, assign, body, run_yield hl (hps x), roundIn_of_wpIn hfn (hassign _ O pre x W _ hi hG fun O1 a' Wa ka hax => ?_)⟩
    have hlW : w.heap.size + 1 < W.heap.size := (Array.getElem?_eq_some_iff.1 hl).1
    have hl' := (ka.same _ hlW hol).trans hl
    have hd' := (ka.same _ (by omega) hod).trans hd
    have hlt : w.heap.size + 1 < Wa.heap.size := Nat.lt_of_lt_of_le hlW ka.size
    have hod1 : ¬ O1 w.heap.size := ka.far (by omega) hod
    have hol1 : ¬ O1 (w.heap.size + 1) := ka.far hlW hol
    refine ⟨_, run_beginRound hl' rfl, ?_⟩
    let Wb : World := Wa.putObj (w.heap.size + 1) (.loop { rc .ready none with state := .busy })
    have hlb : Wb.heap[w.heap.size + 1]? = some (.loop { rc .ready none with state := .busy }) := World.putObj_heap_same hlt
    have hdb : Wb.heap[w.heap.size]? = some (.deferred (some [])) := (World.putObj_heap_other (by omega)).trans hd'
    have hbs : Wb.heap.size = Wa.heap.size := World.putObj_size
    refine wpIn_mono (hbody _ O1 pre x a' Wb ((hAx O1 pre x a').putObj (s := ()) _ hax (Nat.le_succ _) hl' rfl)) ?_
    -- the round's end, whatever jump it leaves behind
    have fin : ∀ (jump : Option Code) (W3 : World), KeptFrom w.heap.size O1 Wb W3 → ∃ W4, W4 = W3.putObj (w.heap.size + 1) (.loop (rc (if jump.isNone then .ready else .done) jump)) ∧
        (Instr.endRound (w.heap.size + 1) jump).run P W3 = .ok (.bool jump.isNone) W4 ∧ Calm w.heap.size W3 W4 ∧
        W4.heap[w.heap.size + 1]? = some (.loop (rc (if jump.isNone then .ready else .done) jump)) ∧ W4.heap[w.heap.size]? = some (.deferred (some [])) := fun jump W3 k3 => by
      have h3 := (k3.same _ (by omega) (by omega) hol1).trans hlb
      exact ⟨_, rfl, run_endRound jump h3, calm_putObj _ (Nat.le_succ _) h3 rfl, World.putObj_heap_same (Array.getElem?_eq_some_iff.1 h3).1, (World.putObj_heap_other (by omega)).trans ((k3.same _ (Nat.le_refl _) (by omega) hod1).trans hdb)⟩
    have left4 : ∀ (W3 W4 : World) (ob : Obj), W4 = W3.putObj (w.heap.size + 1) ob → KeptFrom w.heap.size O1 Wb W3 → KeptFrom W1.heap.size O W W4 := fun W3 W4 ob e4 k3 => by
      refine ⟨by rw [e4, World.putObj_size]; exact Nat.le_trans ka.size (by rw [← hbs]; exact k3.size), fun k h1 hk hn => ?_⟩
      rw [z1] at h1
      have e1 : W4.heap[k]? = W3.heap[k]? := by rw [e4]; exact World.putObj_heap_other (by omega)
      have e2 : W3.heap[k]? = Wb.heap[k]? := k3.same k (by omega) (by rw [hbs]; exact Nat.lt_of_lt_of_le hk ka.size) (ka.far hk hn)
      have e3 : Wb.heap[k]? = Wa.heap[k]? := World.putObj_heap_other (by omega)
      rw [e1, e2, e3, ka.same k hk hn]
    rintro e a3 W3 hp
    cases e with
    | normal =>
      obtain ⟨O', k3, i3⟩ := hp
      obtain ⟨W4, e4, hr, c4, l4, d4⟩ := fin none W3 (k3.from_ _)
      have hs4 : W4.heap.size = W3.heap.size := by rw [e4]; exact World.putObj_size
      have k4 : Kept O O' W W4 := by
        refine ⟨by rw [hs4]; exact Nat.le_trans ka.size (by rw [← hbs]; exact k3.size), fun k hk => ?_, fun k hk hn => ?_⟩
        · rcases k3.own k hk with h1 | h1
          · exact ka.own k h1
          · exact .inr (Nat.le_trans ka.size (by rw [← hbs]; exact h1))
        · by_cases hkl : k = w.heap.size + 1
          · rw [hkl, l4, hl]; rfl
          · have h1 : W4.heap[k]? = W3.heap[k]? := by rw [e4]; exact World.putObj_heap_other hkl
            have h2 : W3.heap[k]? = Wb.heap[k]? := k3.same k (by rw [hbs]; exact Nat.lt_of_lt_of_le hk ka.size) (ka.far hk hn)
            have h3 : Wb.heap[k]? = Wa.heap[k]? := World.putObj_heap_other hkl
            rw [h1, h2, h3, ka.same k hk hn]
      exact ⟨_, _, hr, .inl ⟨rfl, O', ⟨OwnFrom.calm (hI O') i3 c4, l4, d4, k4.far (by omega) hod, k4.far hlW hol⟩, k4⟩⟩
    | ret =>
      obtain ⟨k3, i3⟩ := hp
      obtain ⟨W4, e4, hr, c4, l4, d4⟩ := fin (some .ret) W3 k3
      exact ⟨_, _, hr, .inr ⟨rfl, left4 W3 W4 _ e4 k3, .ret, OwnFrom.calm (hIx _) i3 c4, l4, d4⟩⟩
    | exit id =>
      obtain ⟨k3, i3⟩ := hp
      obtain ⟨W4, e4, hr, c4, l4, d4⟩ := fin (some (.exit id)) W3 k3
      exact ⟨_, _, hr, .inr ⟨rfl, left4 W3 W4 _ e4 k3, .exit id, OwnFrom.calm (hIx _) i3 c4, l4, d4⟩⟩
    | goto t => exact hp.elim
    | panic ch => exact hp.elim
    | outgrown => exact hp.elim
  · rintro e W2 ⟨⟨v, rfl⟩, ⟨O', xs, hS, hi, hl, hd, _⟩ | ⟨pre, hSp, c, hi, hl, hd⟩⟩
    · exact ⟨none, _, run_endLoop hl (by intro e; cases e), hdone _ O' xs _ (Nat.le_refl _) hS ((hI O').putObj _ hi (Nat.le_succ _) hl rfl) ((World.putObj_heap_other (by omega)).trans hd)⟩
    · exact ⟨some c, _, run_endLoop hl (by intro e; cases e), wpIn_wide.2 (hstop _ c pre _ (Nat.le_refl _) hSp ((hIx c).putObj _ hi (Nat.le_succ _) hl rfl) ((World.putObj_heap_other (by omega)).trans hd))⟩
end Go.Proofs.Ytkiiobfomnggcaa
