/-
  The lemmas of XApart ahead of its contract (lists that share no memory).
-/
import Derived.Test.YtkiiobfomnggcaaNum

/-
  The verifier's Apart: lists of bytes of the call's own that share no memory are apart.
-/
section
namespace Go.Proofs.Ytkiiobfomnggcaa
open Go.RowKit
set_option linter.unusedVariables false
set_option maxRecDepth 100000

/-- The byte that marks place j of list k. -/
def patB (k j : Nat) : UInt8 := UInt8.ofNat (29 * k + 5 * j + 3)
def pats (k n : Nat) : List UInt8 := (List.range n).map (patB k)
theorem len_pats (k n : Nat) : (pats k n).length = n := by simp [pats]
theorem pats_succ (k n : Nat) : pats k (n + 1) = pats k n ++ [patB k n] := by simp [pats, List.range_succ]
theorem pats_get (k n j : Nat) (h : j < n) : (pats k n)[j]? = some (patB k j) := by simp [pats, h]
theorem pats_take (k n m : Nat) (h : m ≤ n) : (pats k n).take m = pats k m := by
  rw [pats, ← List.map_take, List.take_range, Nat.min_eq_left h]; rfl
theorem pat_wrap (k j : Nat) : IntKind.u8.wrap (29 * (k : Int) + 5 * (j : Int) + 3) = ((patB k j).toNat : Int) := by
  rw [IntKind.wrap_u8', patB, UInt8.toNat_ofNat']
  omega
theorem pat_conv (k j : Nat) (w : World) : (convert 3 5 (.int .i64 (29 * (k : Int) + 5 * (j : Int) + 3))).run Try.prog w = .ok (.int .u8 ((patB k j).toNat : Int)) w := by
  rw [← pat_wrap]
  simp [go_sem]

/-- One of the lists: where it lies, how long it is, its room. -/
structure Lst where
  A : Option Addr
  n : Nat
  c : Nat
def Lst.val (l : Lst) : Value := .slice l.A l.n l.c
/-- Two lists share no memory. -/
def Lst.far (l m : Lst) : Prop := wrote l.A l.c = none ∨ wrote l.A l.c ≠ wrote m.A m.c

theorem Lst.far_symm {l m : Lst} (h : l.far m) : m.far l := by
  unfold Lst.far at *
  by_cases h1 : wrote m.A m.c = none
  · exact .inl h1
  · right
    rcases h with h | h
    · rw [h]; exact h1
    · exact fun e => h e.symm
theorem Row.keepRow {w w' : World} {base size : Nat} {e : TypeId} {A : Option Addr} {n c : Nat} {xs : List Value} {row : Option Nat} (h : Row w base e size A n c xs) (hg : w.grownBy w' row) (hn : wrote A c = none ∨ wrote A c ≠ row) : Row w' base e size A n c xs := by
  refine ⟨h.1, h.2.1, h.2.2.1, fun hc => ?_⟩
  obtain ⟨g, cur, e1, hgb, hb, hs, ht⟩ := h.2.2.2 hc
  have hw : wrote A c = some g := by rw [wrote, if_neg (by omega), e1]; rfl
  rw [hw] at hn
  exact ⟨g, cur, e1, hgb, hb.grown hg (hn.resolve_left (by simp)), hs, ht⟩
theorem Row.wrote_lt {w : World} {base size : Nat} {e : TypeId} {A : Option Addr} {n c : Nat} {xs : List Value} (h : Row w base e size A n c xs) : wrote A c = none ∨ ∃ g cur, wrote A c = some g ∧ base ≤ g ∧ g < w.heap.size ∧ Blk w g e cur := by
  rcases Nat.eq_zero_or_pos c with hc | hc
  · left; simp [wrote, hc]
  · right
    obtain ⟨g, cur, e1, hgb, hb, _⟩ := h.2.2.2 hc
    exact ⟨g, cur, by rw [wrote, if_neg (by omega), e1]; rfl, hgb, hb.lt, hb⟩
/-- Rows of unlike elements share no block. -/
theorem Row.other {w : World} {base base' size size' : Nat} {e e' : TypeId} {A A' : Option Addr} {n n' c c' : Nat} {xs xs' : List Value} (h : Row w base e size A n c xs) (h' : Row w base' e' size' A' n' c' xs') (hne : e ≠ e') :
    wrote A c = none ∨ wrote A c ≠ wrote A' c' := by
  rcases h.wrote_lt with h1 | ⟨g, cur, h1, _, _, hb⟩
  · exact .inl h1
  · right
    rcases h'.wrote_lt with h2 | ⟨g', cur', h2, _, _, hb'⟩
    · rw [h1, h2]; simp
    · rw [h1, h2]
      intro e1
      have e1 := Option.some.inj e1
      subst e1
      unfold Blk at hb hb'
      rw [hb] at hb'
      simp only [Option.some.injEq, Obj.cells.injEq] at hb'
      exact hne hb'.2.1
/-- What shared no block with a slice shares none with what an append made of it. -/
theorem Row.far_went {w w1 w2 : World} {base size : Nat} {e : TypeId} {A A1 A2 : Option Addr} {n c n1 c1 m c2 : Nat} {xs : List Value} (h : Row w base e size A n c xs) (hle : w.heap.size ≤ w1.heap.size) (q : Went w1 w2 A1 n1 c1 m A2 c2)
    (hf : wrote A c = none ∨ wrote A c ≠ wrote A1 c1) : wrote A c = none ∨ wrote A c ≠ wrote A2 c2 := by
  rcases q with ⟨_, rfl, rfl, _⟩ | ⟨_, rfl, _, _⟩
  · exact hf
  · rcases h.wrote_lt with h1 | ⟨g, cur, h1, _, hlt, _⟩
    · exact .inl h1
    · right
      rw [h1, wrote]
      split
      · simp
      · intro e1
        have := Option.some.inj e1
        simp at this
        omega
theorem Row.went_far {w w1 w2 : World} {base size : Nat} {e : TypeId} {A A1 A2 : Option Addr} {n c n1 c1 m c2 : Nat} {xs : List Value} (h : Row w base e size A n c xs) (hle : w.heap.size ≤ w1.heap.size) (q : Went w1 w2 A1 n1 c1 m A2 c2)
    (hf : wrote A1 c1 = none ∨ wrote A1 c1 ≠ wrote A c) : wrote A2 c2 = none ∨ wrote A2 c2 ≠ wrote A c := by
  rcases q with ⟨_, rfl, rfl, _⟩ | ⟨_, rfl, _, _⟩
  · exact hf
  · rcases h.wrote_lt with h1 | ⟨g, cur, h1, _, hlt, _⟩
    · rcases Nat.eq_zero_or_pos c2 with h0 | h0
      · left; simp [wrote, h0]
      · right; rw [h1, wrote, if_neg (by omega)]; simp
    · rcases Nat.eq_zero_or_pos c2 with h0 | h0
      · left; simp [wrote, h0]
      · right
        rw [h1, wrote, if_neg (by omega)]
        intro e1
        have := Option.some.inj e1
        simp at this
        omega
/-- A byte of one's own row written: 's[j] = x'. -/
theorem OwB.put {w : World} {base : Nat} {g n c : Nat} {bs : List UInt8} (h : OwB w base (some ⟨g, 0, none⟩) n c bs) {j : Nat} (hj : j < n) (x : UInt8) :
    OwB (w.setCell ⟨g, j, none⟩ (b8 x)) base (some ⟨g, 0, none⟩) n c (bs.set j x) := by
  have hl := h.len
  have hnc := h.2.1
  refine ⟨by simp [hl], h.2.1, h.2.2.1, fun hc => ?_⟩
  obtain ⟨g', cur, e1, hgb, hb, hs, ht⟩ := h.2.2.2 hc
  simp only [Option.some.injEq, Addr.mk.injEq, and_true] at e1
  subst e1
  refine ⟨g, _, rfl, hgb, hb.set_ j _, by simpa using hs, ?_⟩
  rw [Nat.mul_one] at ht ⊢
  rw [Array.toList_setIfInBounds, List.take_set, ht, List.map_set]

theorem take_set (bs : List UInt8) (j : Nat) (x : UInt8) (h : j < bs.length) : (bs.set j x).take (j + 1) = bs.take j ++ [x] := by
  rw [List.take_succ_eq_append_getElem (by simpa using h), List.take_set_of_le (Nat.le_refl j), List.getElem_set_self]
/-- The lists stand marked; those that were grown stand marked and apart from the ones still to come. -/
def Marked2 (ls gs : List Lst) (base k : Nat) (wr : World) : Prop :=
  (∀ (m : Nat) (l : Lst), ls[m]? = some l → OwB wr base l.A l.n l.c (pats m l.n)) ∧
  (∀ (m : Nat) (g : Lst), gs[m]? = some g → OwB wr base g.A g.n g.c (pats m g.n) ∧ ∃ l, ls[m]? = some l ∧ g.n = l.n + 10) ∧
  (∀ (m m' : Nat) (g l : Lst), gs[m]? = some g → k ≤ m' → ls[m']? = some l → l.far g)

theorem slice_info : (Try.prog.info? 22).map (fun i => (i.zero, i.size, i.bytes)) = some (some (.slice none 0 0), 1, 24) := by kernel_rfl

theorem Sl.new1 (w : World) (e : TypeId) (v : Value) : Sl (w.alloc (.cells #[v] e)) (w.heap.size + 1) 1 (some ⟨w.heap.size, 0, none⟩) 1 1 [v] := by
  refine ⟨rfl, Nat.le_refl _, by simp [maxLen], fun _ => ⟨w.heap.size, 0, rfl, Nat.lt_succ_self _, fun j u hu => ?_⟩⟩
  rw [(Blk.new w e #[v]).cell, Nat.zero_add]
  simpa using hu
theorem one_slice (A : Option Addr) (n c : Nat) : ∀ u ∈ [Value.slice A n c], u.oneCell' = true := by
  intro u hu
  simp at hu
  subst hu
  rfl
end Go.Proofs.Ytkiiobfomnggcaa
end
