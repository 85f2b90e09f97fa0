/-
  What may be known of a value of a drawn region: slices of bytes, rows of slices.
-/
import Derived.Test.YtbphoilfiahnpaaRel
import Derived.Test.YtbphoilfiahnpaaByt2
namespace Go.Proofs.Ytbphoilfiahnpaa
open Go.RowKit
set_option linter.unusedVariables false

/-- A slice that reads as these bytes. -/
def RelB (n : Nat) (bs : List UInt8) : Value → World → Prop := fun v w => ∃ A c, v = .slice A n c ∧ SlB w w.heap.size A n c bs
theorem RelB.later {n : Nat} {bs : List UInt8} (v : Value) (w w' : World) (hb : Below w.heap.size w w') (h : RelB n bs v w) : RelB n bs v w' :=
  let ⟨A, c, e, hs⟩ := h
  ⟨A, c, e, (hs.below hb).more hb.size⟩
/-- A slice of the call's own that holds these bytes. -/
def RelO (base n : Nat) (bs : List UInt8) : Value → World → Prop := fun v w => ∃ A c, v = .slice A n c ∧ OwB w base A n c bs
theorem RelO.later {base n : Nat} {bs : List UInt8} (v : Value) (w w' : World) (hb : Below w.heap.size w w') (h : RelO base n bs v w) : RelO base n bs v w' :=
  let ⟨A, c, e, hs⟩ := h
  ⟨A, c, e, hs.below hb⟩
/-- An empty row without room. -/
def RelE : Value → World → Prop := fun v _ => ∃ A, v = .slice A 0 0
theorem RelE.later (v : Value) (w w' : World) (hb : Below w.heap.size w w') (h : RelE v w) : RelE v w' := h
/-- A row of slices that read as these rows. -/
def RelP (n : Nat) (bss : List (List UInt8)) : Value → World → Prop := fun v w => ∃ A c, v = .slice A n c ∧ ∃ ls : List (Option Addr × Nat × Nat), ls.length = bss.length ∧ Sl w w.heap.size 1 A n c (ls.map fun l => .slice l.1 l.2.1 l.2.2) ∧
  ∀ (i : Nat) (l : Option Addr × Nat × Nat) (bs : List UInt8), ls[i]? = some l → bss[i]? = some bs → SlB w w.heap.size l.1 l.2.1 l.2.2 bs
theorem RelP.later {n : Nat} {bss : List (List UInt8)} (v : Value) (w w' : World) (hb : Below w.heap.size w w') (h : RelP n bss v w) : RelP n bss v w' :=
  let ⟨A, c, e, ls, h1, h2, h3⟩ := h
  ⟨A, c, e, ls, h1, (Sl.below h2 hb).more hb.size, fun i l bs a b => ((h3 i l bs a b).below hb).more hb.size⟩
/-- Rows of one's own that share no memory are told apart elsewhere; here one row of one slice. -/
theorem RelP.one {w : World} {A : Option Addr} {n c : Nat} {bs : List UInt8} (h : SlB w w.heap.size A n c bs) : RelP 1 [bs] (.slice (some ⟨w.heap.size, 0, none⟩) 1 1) (w.alloc (.cells #[.slice A n c] 31)) :=
  ⟨_, _, rfl, [(A, n, c)], rfl, ⟨rfl, Nat.le_refl _, by simp [maxLen], fun _ => ⟨w.heap.size, 0, rfl, by simp, fun j u hu => by
    rw [(Blk.new w 31 #[.slice A n c]).cell, Nat.zero_add]
    simpa using hu⟩⟩, fun i l b h1 h2 => by
    match i, h1, h2 with
    | 0, h1, h2 =>
      simp only [List.getElem?_cons_zero, Option.some.injEq] at h1 h2
      subst h1; subst h2
      exact (h.alloc (Nat.le_refl _) _).more (by simp)
    | i + 1, h1, _ => simp at h1⟩
theorem RelP.two {w : World} {A A' : Option Addr} {n c n' c' : Nat} {bs bs' : List UInt8} (h : SlB w w.heap.size A n c bs) (h' : SlB w w.heap.size A' n' c' bs') : RelP 2 [bs, bs'] (.slice (some ⟨w.heap.size, 0, none⟩) 2 2) (w.alloc (.cells #[.slice A n c, .slice A' n' c'] 31)) :=
  ⟨_, _, rfl, [(A, n, c), (A', n', c')], rfl, ⟨rfl, Nat.le_refl _, by simp [maxLen], fun _ => ⟨w.heap.size, 0, rfl, by simp, fun j u hu => by
    rw [(Blk.new w 31 #[.slice A n c, .slice A' n' c']).cell, Nat.zero_add]
    simpa using hu⟩⟩, fun i l b h1 h2 => by
    match i, h1, h2 with
    | 0, h1, h2 =>
      simp only [List.getElem?_cons_zero, Option.some.injEq] at h1 h2
      subst h1; subst h2
      exact (h.alloc (Nat.le_refl _) _).more (by simp)
    | 1, h1, h2 =>
      simp only [List.getElem?_cons_succ, List.getElem?_cons_zero, Option.some.injEq] at h1 h2
      subst h1; subst h2
      exact (h'.alloc (Nat.le_refl _) _).more (by simp)
    | i + 2, h1, _ => simp at h1⟩
theorem RelP.three {w : World} {A A' A'' : Option Addr} {n c n' c' n'' c'' : Nat} {bs bs' bs'' : List UInt8} (h : SlB w w.heap.size A n c bs) (h' : SlB w w.heap.size A' n' c' bs') (h'' : SlB w w.heap.size A'' n'' c'' bs'') :
    RelP 3 [bs, bs', bs''] (.slice (some ⟨w.heap.size, 0, none⟩) 3 3) (w.alloc (.cells #[.slice A n c, .slice A' n' c', .slice A'' n'' c''] 31)) :=
  ⟨_, _, rfl, [(A, n, c), (A', n', c'), (A'', n'', c'')], rfl, ⟨rfl, Nat.le_refl _, by simp [maxLen], fun _ => ⟨w.heap.size, 0, rfl, by simp, fun j u hu => by
    rw [(Blk.new w 31 #[.slice A n c, .slice A' n' c', .slice A'' n'' c'']).cell, Nat.zero_add]
    simpa using hu⟩⟩, fun i l b h1 h2 => by
    match i, h1, h2 with
    | 0, h1, h2 =>
      simp only [List.getElem?_cons_zero, Option.some.injEq] at h1 h2
      subst h1; subst h2
      exact (h.alloc (Nat.le_refl _) _).more (by simp)
    | 1, h1, h2 =>
      simp only [List.getElem?_cons_succ, List.getElem?_cons_zero, Option.some.injEq] at h1 h2
      subst h1; subst h2
      exact (h'.alloc (Nat.le_refl _) _).more (by simp)
    | 2, h1, h2 =>
      simp only [List.getElem?_cons_succ, List.getElem?_cons_zero, Option.some.injEq] at h1 h2
      subst h1; subst h2
      exact (h''.alloc (Nat.le_refl _) _).more (by simp)
    | i + 3, h1, _ => simp at h1⟩
/-- The bytes of a slice that is just built. -/
theorem RelB.new {w : World} (cur : Array Value) (bs : List UInt8) (m : Nat) (hm : bs.length = m) (hx : m ≤ maxLen) (hc : cur.toList = bs.map b8) : RelB m bs (.slice (some ⟨w.heap.size, 0, none⟩) m m) (w.alloc (.cells cur 5)) :=
  ⟨_, _, rfl, (SlB.new w cur bs m (Nat.lt_succ_self _) hm hx hc).more (by simp)⟩
theorem below_alloc (w : World) (o : Obj) : Below w.heap.size w (w.alloc o) := (Below.refl _ _).alloc (Nat.le_refl _) _
end Go.Proofs.Ytbphoilfiahnpaa
