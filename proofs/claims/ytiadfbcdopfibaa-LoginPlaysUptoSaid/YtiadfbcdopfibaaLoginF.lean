/-
  login: what stays and what changes in a region that hands a session a frame (printed by wip/gen_login6.py).
-/
import Derived.Test.YtiadfbcdopfibaaLoginE
import Derived.Test.YtiadfbcdopfibaaRelS
namespace Go.Proofs.Ytiadfbcdopfibaa
open Go.RowKit
set_option linter.unusedVariables false
set_option linter.unusedSimpArgs false
set_option maxRecDepth 100000

/-- The world of such a region: ahead of the call (false) and behind it (true). -/
structure SC (base gs : Nat) (init : Int) (th ou : List UInt8) (s0 s1 : Sst) (w0 : World) (b : Bool) (W : World) : Prop where
  fr : Fr [gs] w0 W
  bel : Below base w0 W
  se : Se W base gs init th ou (if b = true then s1 else s0).st ((if b = true then s1 else s0).gr : Int) (if b = true then s1 else s0).ch (if b = true then s1 else s0).nx
section
variable {base gs : Nat} {init : Int} {th ou : List UInt8} {s0 s1 : Sst} {w0 W W' : World} {b : Bool}
theorem SC.size (h : SC base gs init th ou s0 s1 w0 b W) : w0.heap.size ≤ W.heap.size := h.fr.1
theorem SC.start (h : Se w0 base gs init th ou s0.st (s0.gr : Int) s0.ch s0.nx) : SC base gs init th ou s0 s1 w0 false w0 := ⟨Fr.below (Below.refl _ _), Below.refl _ _, h⟩
theorem SC.bw (h : SC base gs init th ou s0 s1 w0 b W) : base ≤ W.heap.size := by have := h.se.hb; have := h.se.lt; omega
theorem SC.step (h : SC base gs init th ou s0 s1 w0 b W) (hb : Below W.heap.size W W') : Fr [gs] W W' ∧ SC base gs init th ou s0 s1 w0 b W' := ⟨Fr.below hb, h.fr.trans (Fr.below hb), h.bel.trans (hb.mono h.bw), h.se.below hb⟩
theorem SC.drew (h : Se w0 base gs init th ou s0.st (s0.gr : Int) s0.ch s0.nx) : SC base gs init th ou s0 s1 w0 false w0.drew := (SC.step (SC.start h) ((Below.refl _ _).drew)).2
theorem SC.se0 (h : SC base gs init th ou s0 s1 w0 false W) : Se W base gs init th ou s0.st (s0.gr : Int) s0.ch s0.nx := h.se
theorem SC.se1 (h : SC base gs init th ou s0 s1 w0 true W) : Se W base gs init th ou s1.st (s1.gr : Int) s1.ch s1.nx := h.se
theorem SC.call {o : Out} {e : Ending} (h : SC base gs init th ou s0 s1 w0 false W) (hh : HP W base gs init th ou (s1, o) e W') : Fr [gs] W W' ∧ SC base gs init th ou s0 s1 w0 true W' := by
  obtain ⟨v, _, _, h2, h3, h4⟩ := hh
  exact ⟨h4, h.fr.trans h4, h.bel.trans h3, h2⟩
theorem SC.call2 (h : SC base gs init th ou s0 s1 w0 false W) (hh : Se W' base gs init th ou s1.st (s1.gr : Int) s1.ch s1.nx ∧ Below base W W' ∧ Fr [gs] W W') : Fr [gs] W W' ∧ SC base gs init th ou s0 s1 w0 true W' :=
  ⟨hh.2.2, h.fr.trans hh.2.2, h.bel.trans hh.2.1, hh.1⟩
theorem SC.store {g : Nat} {cs : Array Value} (h : SC base gs init th ou s0 s1 w0 b W) (hb : Blk W g 42 cs) (hg : w0.heap.size ≤ g) (hw : base ≤ w0.heap.size) (hgr : W.grownBy W' (some g)) : SC base gs init th ou s0 s1 w0 b W' :=
  ⟨h.fr.grown hgr (.inr hg), h.bel.grown hgr h.bw (fun k hk => by cases hk; omega), h.se.step hb hgr⟩
theorem SC.blk (h : SC base gs init th ou s0 s1 w0 b W) {g : Nat} {t : TypeId} {cs : Array Value} (hb : Blk w0 g t cs) (hn : g ≠ gs) : Blk W g t cs := h.fr.blk hb (by simpa using hn)
end
/-- A row of one's own that lies behind the session stays. -/
theorem fr_row {w w' : World} {gs base n c : Nat} {A : Option Addr} {bs : List UInt8} (h : OwB w base A n c bs) (hg : gs < base) (hf : Fr [gs] w w') : OwB w' base A n c bs :=
  ⟨h.1, h.2.1, h.2.2.1, fun hc => by
    obtain ⟨g, cur, e1, hgb, hb, hs, ht⟩ := h.2.2.2 hc
    exact ⟨g, cur, e1, hgb, hf.blk hb (by simp; omega), hs, ht⟩⟩
section
variable {gs B : Nat}
theorem Det.laterS {c : Value} (hg : gs < B) (v : Value) (w w' : World) (hb : Fr [gs] w w') (h : Det c v w) : Det c v w' := h
theorem Any.laterS (hg : gs < B) (v : Value) (w w' : World) (hb : Fr [gs] w w') (h : Any v w) : Any v w' := h
theorem RelO.laterS {n : Nat} {bs : List UInt8} (hg : gs < B) (v : Value) (w w' : World) (hb : Fr [gs] w w') (h : RelO B n bs v w) : RelO B n bs v w' :=
  let ⟨A, c, e, hs⟩ := h
  ⟨A, c, e, fr_row hs hg hb⟩
theorem RelW.laterS {T : TypeId} {cs : Array Value} (hg : gs < B) (v : Value) (w w' : World) (hb : Fr [gs] w w') (h : RelW B T cs v w) : RelW B T cs v w' :=
  let ⟨g, e, hgb, h⟩ := h
  ⟨g, e, hgb, hb.blk h (by simp; omega)⟩
/-- A step's value. -/
def RelV (base : Nat) (o : Out) : Value → World → Prop := fun v w => StepV w base o v
theorem StepV.fr {o : Out} {v : Value} {w w' : World} (h : StepV w B o v) (hg : gs < B) (hb : Fr [gs] w w') : StepV w' B o v := by
  rcases h with ⟨ha, g, A, c, e, h1, h2, h3⟩ | h
  · exact .inl ⟨ha, g, A, c, e, h1, hb.blk h2 (by simp; omega), fr_row h3 hg hb⟩
  · exact .inr h
theorem StepV.below {o : Out} {v : Value} {w w' : World} (h : StepV w B o v) (hb : Below w.heap.size w w') : StepV w' B o v := by
  rcases h with ⟨ha, g, A, c, e, h1, h2, h3⟩ | h
  · exact .inl ⟨ha, g, A, c, e, h1, h2.below hb h2.lt, OwB.below h3 hb⟩
  · exact .inr h
theorem StepV.base_le {o : Out} {v : Value} {w : World} {B' : Nat} (h : StepV w B o v) (hb : B' ≤ B) : StepV w B' o v := by
  rcases h with ⟨ha, g, A, c, e, h1, h2, h3⟩ | h
  · exact .inl ⟨ha, g, A, c, e, by omega, h2, Row.base_le h3 hb⟩
  · exact .inr h
theorem RelV.laterS {o : Out} (hg : gs < B) (v : Value) (w w' : World) (hb : Fr [gs] w w') (h : RelV B o v w) : RelV B o v w' := StepV.fr h hg hb
/-- A frame that carries bytes of one's own. -/
def RelG (base : Nat) (k n x : Int) (m : Nat) (bs : List UInt8) : Value → World → Prop := fun v w => ∃ A c, v = .agg #[.int .i64 k, .int .i64 n, .int .i64 x, .slice A m c] ∧ OwB w base A m c bs
theorem RelG.laterS {k n x : Int} {m : Nat} {bs : List UInt8} (hg : gs < B) (v : Value) (w w' : World) (hb : Fr [gs] w w') (h : RelG B k n x m bs v w) : RelG B k n x m bs v w' :=
  let ⟨A, c, e, h⟩ := h
  ⟨A, c, e, fr_row h hg hb⟩
end
/-- A row that lies behind the session doesn't lie in it. -/
theorem own_far {w : World} {base n c gs : Nat} {A : Option Addr} {bs : List UInt8} (h : OwB w base A n c bs) (hg : gs < base) (hn : 0 < n) : ∀ b off, A = some ⟨b, off, none⟩ → b ≠ gs := fun b off e => by
  obtain ⟨g, cur, e', hb, _⟩ := OwB.open_ h (by have := OwB.le h; omega)
  rw [e] at e'
  simp only [Option.some.injEq, Addr.mk.injEq, and_true] at e'
  omega
end Go.Proofs.Ytiadfbcdopfibaa
