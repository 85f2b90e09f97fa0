/-
  Several texts of plain lemmas and contracts, one behind the other: Lib, Byt, Byt2, Byt3, Arr, Arr2, I64, Rng, Later, Rel, RelB, RelM, RelIn, Open, OpenA, Shape.
-/
import Derived.WalkKit
import Derived.ProofKit
import Derived.OpenShut
import Derived.ShutString
import Derived.ChangeOld
import Derived.Below
import Derived.BigQuiet
import Derived.Deep.QuietTactic
import Derived.Deep.AppendLies
import Derived.Deep.Draws
import Derived.Laws.OwnMore
import Derived.Laws.MakeOwn
import Derived.Laws.Entries
import Derived.Laws.Rows
import Derived.Lib.Hide
import Derived.Outline
import Derived.SizedLaws
import Derived.WalkSpells
import Derived.WalkLawsBesides
import Derived.Test.YtkiiobfomnggcaaRows
import Derived.Laws.BytesString
import Derived.Laws.BitsAllLaws
import Derived.Laws.StructEq
import Derived.RangeFuncWrites
import Derived.RangeFuncCalls
import Derived.RangeFuncBound
import Derived.RangeFuncLeaves
import Derived.Shelf.Abstract
import Derived.OwnWalkIn
import Derived.TacticsInMore
import Derived.LoopNIn
import Derived.LoopIn
import Derived.StillTailTactics
import Derived.OrdersIn
import Derived.Deep.Slices

/-
  Plain lemmas on worlds, blocks and slices that the proofs of this seat use; no function of the program is named here.
-/
section
namespace Go.Proofs.Ytkiiobfomnggcaa
open Go.RowKit
set_option linter.unusedVariables false

theorem quiet_left {P : Program} {f : FuncId} {args : Array Value} {w : World} {n : Nat} {v : Value}
    (h : Calls P f args (w.drewN n) fun e w' => e = .returned v ∧ w.drewN n = w') : Calls P f args (w.drewN n) fun e w' => e = .returned v ∧ ∃ m, w' = w.drewN m :=
  h.mono fun _ _ ⟨he, hm⟩ => ⟨he, n, hm.symm⟩
theorem quiet_add_left {P : Program} {f : FuncId} {args : Array Value} {w : World} {a n : Nat} {v : Value}
    (h : Calls P f args (w.drewN (a + n)) fun e w' => e = .returned v ∧ w.drewN (a + n) = w') :
    Calls P f args (w.drewN (a + n)) fun e w'' => e = .returned v ∧ ∃ m, w'' = w.drewN (a + m) :=
  h.mono fun _ _ ⟨he, hm⟩ => ⟨he, n, hm.symm⟩

theorem i64_bd {a : Int} (ha : (Lit.int .i64 a).wf = true) : -9223372036854775808 ≤ a ∧ a ≤ 9223372036854775807 := by
  simpa [Lit.wf, IntKind.min, IntKind.max, IntKind.signed, IntKind.bits] using ha
theorem u8_bd {a : Int} (ha : (Lit.int .u8 a).wf = true) : 0 ≤ a ∧ a ≤ 255 := by
  simpa [Lit.wf, IntKind.min, IntKind.max, IntKind.signed, IntKind.bits] using ha

theorem below_drewN {B : Nat} {a w : World} (h : Below B a w) (n : Nat) : Below B a (w.drewN n) := ⟨h.os, h.tape, h.output, h.size, h.block⟩

/-! ### Blocks known whole -/
def Blk (w : World) (g : Nat) (t : TypeId) (cs : Array Value) : Prop := w.heap[g]? = some (.cells cs t (0, 0))

section
variable {w w' : World} {g : Nat} {t : TypeId} {cs : Array Value}
theorem Blk.lt (h : Blk w g t cs) : g < w.heap.size := by
  rcases Nat.lt_or_ge g w.heap.size with hlt | hge
  · exact hlt
  · unfold Blk at h; rw [Array.getElem?_eq_none hge] at h; cases h
theorem Blk.cell (h : Blk w g t cs) (i : Nat) : w.cell? ⟨g, i, none⟩ = cs[i]? := cell_of_row w g i cs t (0, 0) h
theorem Blk.frozen (h : Blk w g t cs) (i : Nat) : w.frozen? ⟨g, i, none⟩ = false := by
  unfold Blk at h
  simp [World.frozen?, h]
theorem Blk.new (w : World) (t : TypeId) (cs : Array Value) : Blk (w.alloc (.cells cs t)) w.heap.size t cs := heap_alloc_new w _
theorem Blk.drew (h : Blk w g t cs) : Blk w.drew g t cs := h
theorem Blk.drewN (h : Blk w g t cs) (n : Nat) : Blk (w.drewN n) g t cs := h
theorem Blk.alloc (h : Blk w g t cs) (o : Obj) : Blk (w.alloc o) g t cs := (Below.heap_alloc w o g h.lt).trans h
theorem Blk.set_ (h : Blk w g t cs) (i : Nat) (u : Value) : Blk (w.setCell ⟨g, i, none⟩ u) g t (cs.setIfInBounds i u) := by
  unfold Blk at h ⊢
  simp [World.setCell, Array.getElem?_modify, h]
theorem Blk.far (h : Blk w g t cs) {p : Addr} (hp : g ≠ p.block) (u : Value) : Blk (w.setCell p u) g t cs := (Below.heap_setCell w p u g hp).trans h
theorem Blk.below {B : Nat} (h : Blk w g t cs) (hb : Below B w w') (hg : g < B) : Blk w' g t cs := (hb.block g hg).trans h
theorem Blk.grown {row : Option Nat} (h : Blk w g t cs) (hb : w.grownBy w' row) (hg : some g ≠ row) : Blk w' g t cs := (hb.block g h.lt hg).trans h
end

theorem grownBy_setCell (w : World) (g i : Nat) (u : Value) : w.grownBy (w.setCell ⟨g, i, none⟩ u) (some g) :=
  ⟨rfl, rfl, rfl, by simp [World.setCell], fun k _ hne => Below.heap_setCell w ⟨g, i, none⟩ u k (fun e => hne (by rw [e]))⟩
theorem grownBy_trans {a b c : World} {row : Option Nat} (h : a.grownBy b row) (k : b.grownBy c row) : a.grownBy c row :=
  ⟨k.os.trans h.os, k.tape.trans h.tape, k.output.trans h.output, Nat.le_trans h.size k.size, fun i hi hne => (k.block i (Nat.lt_of_lt_of_le hi h.size) hne).trans (h.block i hi hne)⟩
theorem grownBy_none {a b : World} {row : Option Nat} (h : a.grownBy b none) : a.grownBy b row := ⟨h.os, h.tape, h.output, h.size, fun k hk _ => h.block k hk (by simp)⟩
theorem grownBy_of_below {a b : World} {row : Option Nat} (h : Below a.heap.size a b) : a.grownBy b row := ⟨h.os, h.tape, h.output, h.size, fun k hk _ => h.block k hk⟩

/-! ### make of elements of any number of cells -/
theorem run_make_rowN {P : Program} (t e : TypeId) (i : TypeInfo) (z : Value) (ht : P.underlying t = some (.slice e)) (hi : P.info? e = some i) (hz : i.zero = some z)
    (kl kc : IntKind) (n c : Nat) (hnc : n ≤ c) (hbytes : i.bytes * c ≤ 281474976710656) (h63 : c ≤ 9223372036854775807) (w : World) :
    (Instr.makeSlice t (.int kl (n : Int)) (.int kc (c : Int))).run P w = .ok (.slice (some ⟨w.heap.size, 0, none⟩) n c) (w.alloc (.cells (madeCells z.cells (c * i.size)) e)) := by
  have hb : (i.bytes : Int) * (c : Int) ≤ 281474976710656 := by
    have h : ((i.bytes * c : Nat) : Int) ≤ 281474976710656 := by omega
    rwa [Int.natCast_mul] at h
  have hr := run_make (P := P) w t e i z ht hi hz kl kc n c (by omega) (by omega) hb (by omega)
  simp only [Int.toNat_natCast] at hr
  exact hr

/-! ### Slices that read as a list of cells ('Sl'), and slices of the call's own ('Row') -/
/-- The slice '.slice A n c' of elements of 'size' cells reads as the cells xs; its array lies below block B. -/
def Sl (w : World) (B size : Nat) (A : Option Addr) (n c : Nat) (xs : List Value) : Prop :=
  xs.length = n * size ∧ n ≤ c ∧ c ≤ maxLen ∧ (0 < c → ∃ b off, A = some ⟨b, off, none⟩ ∧ b < B ∧ ∀ j u, xs[j]? = some u → w.cell? ⟨b, off + j, none⟩ = some u)

/-- The slice '.slice A n c' is the call's own: it has no room at all, or it begins a block of its own, from 'base' on. -/
def Row (w : World) (base : Nat) (e : TypeId) (size : Nat) (A : Option Addr) (n c : Nat) (xs : List Value) : Prop :=
  xs.length = n * size ∧ n ≤ c ∧ c ≤ maxLen ∧ (0 < c → ∃ g cur, A = some ⟨g, 0, none⟩ ∧ base ≤ g ∧ Blk w g e cur ∧ c * size ≤ cur.size ∧ cur.toList.take (n * size) = xs)

section
variable {w w' : World} {B B' size n c base : Nat} {e : TypeId} {A : Option Addr} {xs : List Value}
theorem Sl.keep (h : Sl w B size A n c xs) (hk : ∀ p : Addr, p.block < B → w'.cell? p = w.cell? p) : Sl w' B size A n c xs :=
  ⟨h.1, h.2.1, h.2.2.1, fun hc => by
    obtain ⟨b, off, e, hb, hj⟩ := h.2.2.2 hc
    exact ⟨b, off, e, hb, fun j u hu => (hk _ hb).trans (hj j u hu)⟩⟩
theorem Sl.more (h : Sl w B size A n c xs) (hB : B ≤ B') : Sl w B' size A n c xs :=
  ⟨h.1, h.2.1, h.2.2.1, fun hc => by
    obtain ⟨b, off, e, hb, hj⟩ := h.2.2.2 hc
    exact ⟨b, off, e, by omega, hj⟩⟩
theorem Sl.below (h : Sl w B size A n c xs) (hb : Below B w w') : Sl w' B size A n c xs := h.keep fun _ hp => hb.cell hp
theorem Sl.drewN (h : Sl w B size A n c xs) (k : Nat) : Sl (w.drewN k) B size A n c xs := h
theorem Sl.at_ (h : Sl w B size A n c xs) (hc : 0 < c) : ∃ b off, A = some ⟨b, off, none⟩ ∧ b < B ∧ ∀ j u, xs[j]? = some u → w.cell? ⟨b, off + j, none⟩ = some u := h.2.2.2 hc
theorem Sl.nil (w : World) (B size : Nat) (A : Option Addr) : Sl w B size A 0 0 [] := ⟨by simp, Nat.le_refl _, by simp [maxLen], fun h => absurd h (by omega)⟩
theorem Sl.le (h : Sl w B size A n c xs) : n ≤ maxLen := Nat.le_trans h.2.1 h.2.2.1
/-- A cut 's[lo:hi]'. -/
theorem Sl.cut (h : Sl w B size A n c xs) {lo hi : Nat} (hl : lo ≤ hi) (hh : hi ≤ n) :
    Sl w B size (if c = lo then A else A.map (·.add (lo * size))) (hi - lo) (c - lo) ((xs.drop (lo * size)).take ((hi - lo) * size)) := by
  have h1 := h.1
  have h2 := h.2.1
  have h3 := h.2.2.1
  refine ⟨?_, by omega, by omega, fun hc => ?_⟩
  · rw [List.length_take, List.length_drop, h1, ← Nat.sub_mul, Nat.min_eq_left]
    exact Nat.mul_le_mul_right _ (by omega)
  · obtain ⟨b, off, rfl, hb, hj⟩ := h.2.2.2 (by omega)
    rw [if_neg (by omega)]
    refine ⟨b, off + lo * size, ?_, hb, fun j u hu => ?_⟩
    · rw [Option.map_some, Addr.add_lit]
    · rw [Nat.add_assoc]
      rw [List.getElem?_take] at hu
      split at hu
      · exact hj _ u (by rw [← hu, List.getElem?_drop])
      · cases hu

theorem Row.sl (h : Row w base e size A n c xs) : Sl w w.heap.size size A n c xs :=
  ⟨h.1, h.2.1, h.2.2.1, fun hc => by
    obtain ⟨g, cur, rfl, hg, hb, hs, ht⟩ := h.2.2.2 hc
    refine ⟨g, 0, rfl, hb.lt, fun j u hu => ?_⟩
    rw [Nat.zero_add, hb.cell]
    rw [← ht, List.getElem?_take] at hu
    split at hu
    · simpa using hu
    · cases hu⟩
theorem Row.nil (w : World) (base : Nat) (e : TypeId) (size : Nat) (A : Option Addr) : Row w base e size A 0 0 [] := ⟨by simp, Nat.le_refl _, by simp [maxLen], fun h => absurd h (by omega)⟩
theorem Row.new (w : World) (base : Nat) (e : TypeId) (size : Nat) (cur : Array Value) (n c : Nat) (hb : base ≤ w.heap.size) (hn : n ≤ c) (hc : c ≤ maxLen) (hs : cur.size = c * size) :
    Row (w.alloc (.cells cur e)) base e size (some ⟨w.heap.size, 0, none⟩) n c (cur.toList.take (n * size)) :=
  ⟨by rw [List.length_take, Array.length_toList, hs, Nat.min_eq_left (Nat.mul_le_mul_right _ hn)], hn, hc, fun _ => ⟨w.heap.size, cur, rfl, hb, Blk.new _ _ _, Nat.le_of_eq hs.symm, rfl⟩⟩
/-- What became of the world kept the row's own block. -/
theorem Row.keep (h : Row w base e size A n c xs) (hk : ∀ g, A = some ⟨g, 0, none⟩ → g < w.heap.size → w'.heap[g]? = w.heap[g]?) : Row w' base e size A n c xs :=
  ⟨h.1, h.2.1, h.2.2.1, fun hc => by
    obtain ⟨g, cur, e1, hg, hb, hs, ht⟩ := h.2.2.2 hc
    exact ⟨g, cur, e1, hg, (hk g e1 hb.lt).trans hb, hs, ht⟩⟩
theorem Row.below (h : Row w base e size A n c xs) (hb : Below w.heap.size w w') : Row w' base e size A n c xs := h.keep fun g _ hg => hb.block g hg
theorem Row.alloc (h : Row w base e size A n c xs) (o : Obj) : Row (w.alloc o) base e size A n c xs := h.keep fun g _ hg => Below.heap_alloc w o g hg
theorem Row.drewN (h : Row w base e size A n c xs) (k : Nat) : Row (w.drewN k) base e size A n c xs := h
theorem Row.drew (h : Row w base e size A n c xs) : Row w.drew base e size A n c xs := h
theorem Row.base_le (h : Row w base e size A n c xs) {b' : Nat} (hb : b' ≤ base) : Row w b' e size A n c xs :=
  ⟨h.1, h.2.1, h.2.2.1, fun hc => by
    obtain ⟨g, cur, e1, hg, hr⟩ := h.2.2.2 hc
    exact ⟨g, cur, e1, by omega, hr⟩⟩
/-- A cut at the end: 's[:k]'. -/
theorem Row.trim (h : Row w base e size A n c xs) {k : Nat} (hk : k ≤ n) : Row w base e size A k c (xs.take (k * size)) := by
  have h2 := h.2.1
  refine ⟨?_, by omega, h.2.2.1, fun hc => ?_⟩
  · rw [List.length_take, h.1, Nat.min_eq_left (Nat.mul_le_mul_right _ hk)]
  · obtain ⟨g, cur, e1, hg, hb, hs, ht⟩ := h.2.2.2 hc
    refine ⟨g, cur, e1, hg, hb, hs, ?_⟩
    rw [← ht, List.take_take, Nat.min_eq_left (Nat.mul_le_mul_right _ hk)]
end

/-! ### append -/
/-- The block that an append to '.slice A n c' may have written. -/
def wrote (A : Option Addr) (c : Nat) : Option Nat := if c = 0 then none else A.map (·.block)
/-- What an append of m elements did: there was room and the slice stands where it stood; or it begins the new block. -/
def Went (w w' : World) (A : Option Addr) (n c m : Nat) (A' : Option Addr) (c' : Nat) : Prop :=
  (n + m ≤ c ∧ A' = A ∧ c' = c ∧ w.grownBy w' (wrote A c)) ∨ (c < n + m ∧ A' = some ⟨w.heap.size, 0, none⟩ ∧ n + m ≤ c' ∧ w.grownBy w' none)
theorem Went.stay {w w' : World} {A A' : Option Addr} {n c m c' : Nat} (h : Went w w' A n c m A' c') (hr : n + m ≤ c) : A' = A ∧ c' = c := by
  rcases h with ⟨_, h1, h2, _⟩ | ⟨h0, _⟩
  · exact ⟨h1, h2⟩
  · omega
theorem Went.moved {w w' : World} {A A' : Option Addr} {n c m c' : Nat} (h : Went w w' A n c m A' c') (hr : c < n + m) : A' = some ⟨w.heap.size, 0, none⟩ ∧ n + m ≤ c' ∧ w.grownBy w' none := by
  rcases h with ⟨h0, _⟩ | ⟨_, h1, h2, h3⟩
  · omega
  · exact ⟨h1, h2, h3⟩
theorem Went.grown {w w' : World} {A A' : Option Addr} {n c m c' : Nat} (h : Went w w' A n c m A' c') : w.grownBy w' (wrote A c) := by
  rcases h with ⟨_, _, _, h3⟩ | ⟨_, _, _, h3⟩
  · exact h3
  · exact ⟨h3.os, h3.tape, h3.output, h3.size, fun k hk _ => h3.block k hk (by simp)⟩

section
variable {P : Program}
theorem run_firstCells_sl {w : World} {B size : Nat} {A : Option Addr} {m c : Nat} {news : List Value} (h : Sl w B size A m c news) (w1 : World) (hw : ∀ a, w1.cell? a = w.cell? a) :
    (Builtin.firstCells size m (.slice A m c)).run P w1 = .ok news.toArray w1 := by
  rcases Nat.eq_zero_or_pos m with h0 | h0
  · subst h0
    obtain rfl : news = [] := List.eq_nil_of_length_eq_zero (by simpa using h.1)
    cases A with
    | none => simp [Builtin.firstCells]
    | some a => simp [Builtin.firstCells, loadCells, loadCellsFrom]
  · obtain ⟨b, off, rfl, _, hj⟩ := h.2.2.2 (by have := h.2.1; omega)
    exact run_firstCells_some w1 size m _ m c news h.1 (fun j v hv => by rw [Addr.add_lit, hw]; exact hj j v hv)

theorem run_append_row {w : World} {base : Nat} {t ty e : TypeId} {i : TypeInfo} {z : Value} {size bytes : Nat} (ht : P.underlying t = some (.slice e)) (hi : P.info? e = some i) (hz : i.zero = some z)
    (hsize : i.size = size) (hby : i.bytes = bytes) (hzs : z.cells.size = size)
    {A : Option Addr} {n c : Nat} {xs : List Value} (hown : Row w base e size A n c xs)
    {B : Nat} {A2 : Option Addr} {m c2 : Nat} {news : List Value} (hr : Sl w B size A2 m c2 news) (h1 : ∀ u ∈ news, u.oneCell' = true)
    (hbytes : (n + m) * bytes ≤ 140737488355328) (h63 : n + m ≤ maxLen) (hbase : base ≤ w.heap.size) :
    ∃ A' c' w', (Builtin.append_ #[t, t] ty #[.slice A n c, .slice A2 m c2]).run P w = .ok (.slice A' (n + m) c') w' ∧ Row w' base e size A' (n + m) c' (xs ++ news) ∧
      Went w w' A n c m A' c' := by
  subst hsize
  subst hby
  have hlen : (xs ++ news).length = (n + m) * i.size := by rw [List.length_append, hown.1, hr.1, Nat.add_mul]
  have hnews := run_firstCells_sl (P := P) hr w (fun _ => rfl)
  by_cases hroom : n + m ≤ c
  · rcases Nat.eq_zero_or_pos c with hc0 | hc0
    · -- no room at all, and nothing to append
      obtain rfl : n = 0 := by omega
      obtain rfl : m = 0 := by omega
      subst hc0
      obtain rfl : news = [] := List.eq_nil_of_length_eq_zero (by simpa using hr.1)
      obtain rfl : xs = [] := List.eq_nil_of_length_eq_zero (by simpa using hown.1)
      refine ⟨A, 0, w, ?_, Row.nil _ _ _ _ _, .inl ⟨by omega, rfl, rfl, World.grownBy.refl _ _⟩⟩
      cases A with
      | none => simp [Builtin.append_, run_underlying ht, sizeOf, typeInfo, hi, Builtin.lenOf, hnews]
      | some a => simp [Builtin.append_, run_underlying ht, sizeOf, typeInfo, hi, Builtin.lenOf, hnews, storeCells]
    · obtain ⟨g, cur, rfl, hg, hb, hs, htk⟩ := hown.2.2.2 hc0
      have hfit : n * i.size + news.length ≤ cur.size := by rw [hr.1, ← Nat.add_mul]; exact Nat.le_trans (Nat.mul_le_mul_right _ hroom) hs
      have hst := run_storeCells_at P g (n * i.size) e news 0 cur w hb (by simpa using hfit) h1
      simp only [Nat.add_zero] at hst
      refine ⟨some ⟨g, 0, none⟩, c, w.setRow g (cur.toList.take (n * i.size) ++ news ++ cur.toList.drop (n * i.size + news.length)).toArray,
        by simp [Builtin.append_, run_underlying ht, sizeOf, typeInfo, hi, Builtin.lenOf, hroom, hnews, Addr.add_lit, hst], ?_, .inl ⟨hroom, rfl, rfl, ?_⟩⟩
      · refine ⟨hlen, hroom, hown.2.2.1, fun _ => ⟨g, _, rfl, hg, setRow_heap w g cur _ e _ hb, ?_, ?_⟩⟩
        · simp only [List.size_toArray, List.length_append, List.length_take, List.length_drop, Array.length_toList]
          omega
        · rw [htk, ← hlen]
          exact List.take_left
      · exact ⟨rfl, rfl, rfl, by simp, fun k _ hk => setRow_other w g k _ (fun e => hk (by rw [wrote, if_neg (by omega)]; simp [e]))⟩
  · have h63' : ¬ (9223372036854775807 < ((n : Int) + (m : Int))) := by simp only [maxLen] at h63; omega
    have h48' : ¬ (281474976710656 < Builtin.nextslicecap (n + m) c * i.bytes) := by have := growslice_fits (old := c) (by omega) hbytes; omega
    have hge := grownCap_ge w (n + m) c e
    have hcm : grownCap w (n + m) c e ≤ maxLen := grownCap_le_maxLen w (n + m) c e h63
    have hnews1 := run_firstCells_sl (P := P) hr w.drew (fun _ => by simp)
    have hold : (Builtin.firstCells i.size n (.slice A n c)).run P w.drew = .ok xs.toArray w.drew := run_firstCells_sl (P := P) hown.sl w.drew (fun _ => by simp)
    refine ⟨some ⟨w.heap.size, 0, none⟩, grownCap w (n + m) c e, w.drew.alloc (.cells (xs.toArray ++ news.toArray ++ Builtin.zeroCells z.cells (grownCap w (n + m) c e - (n + m))) e), ?_, ?_, .inr ⟨by omega, rfl, hge, ?_⟩⟩
    · simp [Builtin.append_, run_underlying ht, sizeOf, typeInfo, zeroValue, hi, hz, Builtin.lenOf, hroom, h63', h48', Question.forced, hnews1, hold, newRow, grownCap]
      rw [← List.append_toArray, Array.append_assoc]
    · refine ⟨hlen, hge, hcm, fun _ => ⟨w.heap.size, _, rfl, hbase, Blk.new w.drew _ _, ?_, ?_⟩⟩
      · simp only [Array.size_append, List.size_toArray, size_zeroCells, hzs, hown.1, hr.1, ← Nat.add_mul]
        refine Nat.mul_le_mul_right _ ?_
        omega
      · simp only [Array.toList_append, List.append_assoc]
        rw [← List.append_assoc, ← hlen]
        exact List.take_left
    · exact ⟨rfl, rfl, rfl, by simp, fun k hk _ => Below.heap_alloc w.drew _ k hk⟩

theorem wpList_append_row {ops : Array Oper} {rest : List Oper} {o : Oper} {a : Act} {Q : Exit → Act → World → Prop} {w : World} (hgd : o.guard = none) (s x : Operand) (t : TypeId)
    (ho : o.op = .call { callee := .builtin .append, args := #[s, x], argTypes := #[t, t] })
    {base : Nat} {e : TypeId} {i : TypeInfo} {z : Value} {size bytes : Nat} (ht : P.underlying t = some (.slice e)) (hi : P.info? e = some i) (hz : i.zero = some z)
    (hsize : i.size = size) (hby : i.bytes = bytes) (hzs : z.cells.size = size)
    {A : Option Addr} {n c : Nat} {xs : List Value} (hs : a.eval s = .slice A n c) (hown : Row w base e size A n c xs)
    {B : Nat} {A2 : Option Addr} {m c2 : Nat} {news : List Value} (hx : a.eval x = .slice A2 m c2) (hr : Sl w B size A2 m c2 news) (h1 : ∀ u ∈ news, u.oneCell' = true)
    (hbytes : (n + m) * bytes ≤ 140737488355328) (h63 : n + m ≤ maxLen) (hbase : base ≤ w.heap.size)
    (h : ∀ A' c' w', Row w' base e size A' (n + m) c' (xs ++ news) → Went w w' A n c m A' c' → wpList P ops Q rest (a.put o.dst (.slice A' (n + m) c')) w') :
    wpList P ops Q (o :: rest) a w := by
  refine wpList_plain hgd fun K hK => ?_
  obtain ⟨A', c', w', hrun, h2, h3⟩ := run_append_row (P := P) (ty := o.type) ht hi hz hsize hby hzs hown hr h1 hbytes h63 hbase
  unfold Oper.wp execOp
  simp only [ho, resolve, invoke, builtin, Sem.run_bind, Sem.run_pure, Result.andThen_ok, List.map_toArray, List.map_cons, List.map_nil, hs, hx, hrun]
  exact hK _ _ (h A' c' w' h2 h3)
end
/-- An append writes to its own row alone: what lay below 'base0' stands. -/
theorem Went.below {w w' W : World} {base base0 : Nat} {e : TypeId} {size : Nat} {A A' : Option Addr} {n c m c' : Nat} {xs : List Value} (hq : Went w w' A n c m A' c') (h : Row w base e size A n c xs) (hbel : Below base0 W w)
    (hb : base0 ≤ base) (hs : base0 ≤ w.heap.size) : Below base0 W w' := by
  refine hbel.grown hq.grown hs fun k hk => ?_
  rcases Nat.eq_zero_or_pos c with hc | hc
  · simp [wrote, hc] at hk
  · obtain ⟨g, cur, rfl, hg', _⟩ := h.2.2.2 hc
    rw [wrote, if_neg (by omega)] at hk
    simp at hk
    omega
end Go.Proofs.Ytkiiobfomnggcaa
end

/-
  Byte slices: what it means that a slice reads as a list of bytes; conversions, makes and appends of byte slices.
-/
section
namespace Go.Proofs.Ytkiiobfomnggcaa
open Go.RowKit
set_option linter.unusedVariables false

/-- A byte as a value. -/
def b8 (x : UInt8) : Value := .int .u8 (x.toNat : Int)
theorem b8_def (x : UInt8) : b8 x = .int .u8 (x.toNat : Int) := rfl
theorem b8_one (xs : List UInt8) : ∀ u ∈ xs.map b8, u.oneCell' = true := by
  intro u hu
  obtain ⟨x, _, rfl⟩ := List.mem_map.1 hu
  rfl

theorem xor8 (x y : UInt8) : bits .xor .u8 (x.toNat : Int) (y.toNat : Int) = ((x ^^^ y).toNat : Int) := by
  rw [u8_xor_nat _ _ (UInt8.toNat_lt x) (UInt8.toNat_lt y), UInt8.toNat_xor]
theorem or8 (x y : UInt8) : bits .or .u8 (x.toNat : Int) (y.toNat : Int) = ((x ||| y).toNat : Int) := by
  rw [u8_or_nat _ _ (UInt8.toNat_lt x) (UInt8.toNat_lt y), UInt8.toNat_or]
theorem b8_inj {x y : UInt8} (h : b8 x = b8 y) : x = y := by
  simp only [b8, Value.int.injEq, true_and] at h
  exact UInt8.toNat_inj.1 (by omega)

/-- 'The slice .slice A n c reads as the bytes bs; its array lies below block B.' -/
def SlB (w : World) (B : Nat) (A : Option Addr) (n c : Nat) (bs : List UInt8) : Prop := Sl w B 1 A n c (bs.map b8)
/-- 'The slice .slice A n c is the call's own and holds the bytes bs.' -/
def OwB (w : World) (base : Nat) (A : Option Addr) (n c : Nat) (bs : List UInt8) : Prop := Row w base 5 1 A n c (bs.map b8)

section
variable {w w' : World} {B B' base : Nat} {A : Option Addr} {n c : Nat} {bs : List UInt8}
theorem SlB.len (h : SlB w B A n c bs) : bs.length = n := by have := h.1; simpa using this
theorem SlB.le (h : SlB w B A n c bs) : n ≤ c := h.2.1
theorem SlB.cap (h : SlB w B A n c bs) : c ≤ maxLen := h.2.2.1
theorem SlB.mx (h : SlB w B A n c bs) : n ≤ 9223372036854775807 := by have := Sl.le h; simpa [maxLen] using this
theorem SlB.keep (h : SlB w B A n c bs) (hk : ∀ p : Addr, p.block < B → w'.cell? p = w.cell? p) : SlB w' B A n c bs := Sl.keep h hk
theorem SlB.more (h : SlB w B A n c bs) (hB : B ≤ B') : SlB w B' A n c bs := Sl.more h hB
theorem SlB.below (h : SlB w B A n c bs) (hb : Below B w w') : SlB w' B A n c bs := Sl.below h hb
theorem SlB.drewN (h : SlB w B A n c bs) (k : Nat) : SlB (w.drewN k) B A n c bs := h
theorem SlB.nil (w : World) (B : Nat) (A : Option Addr) : SlB w B A 0 0 [] := Sl.nil _ _ _ _
/-- Where there is room there is an address. -/
theorem SlB.at_ (h : SlB w B A n c bs) (hc : 0 < c) : ∃ b off, A = some ⟨b, off, none⟩ ∧ b < B ∧ (∀ j u, bs[j]? = some u → w.cell? ⟨b, off + j, none⟩ = some (.int .u8 (u.toNat : Int))) := by
  obtain ⟨b, off, e, hb, hj⟩ := h.2.2.2 hc
  exact ⟨b, off, e, hb, fun j u hu => hj j _ (by simp [hu, b8_def])⟩
theorem SlB.cut (h : SlB w B A n c bs) {lo hi : Nat} (hl : lo ≤ hi) (hh : hi ≤ n) :
    SlB w B (if c = lo then A else A.map (·.add lo)) (hi - lo) (c - lo) ((bs.drop lo).take (hi - lo)) := by
  have := Sl.cut h hl hh
  simpa [SlB, List.map_drop, List.map_take] using this
theorem SlB.trim (h : SlB w B A n c bs) {k : Nat} (hk : k ≤ n) : SlB w B A k c (bs.take k) := by
  have := h.cut (Nat.zero_le k) hk
  rcases Nat.eq_zero_or_pos c with hc | hc
  · subst hc
    simpa using this
  · rw [if_neg (by omega)] at this
    have e : A.map (·.add 0) = A := by cases A <;> simp [Addr.add]
    rw [e] at this
    simpa using this
theorem SlB.tail (h : SlB w B A n c bs) {lo : Nat} (hl : lo ≤ n) :
    SlB w B (if c = lo then A else A.map (·.add lo)) (n - lo) (c - lo) (bs.drop lo) := by
  have := h.cut hl (Nat.le_refl _)
  rw [List.take_of_length_le (by simp [h.len])] at this
  exact this

theorem OwB.len (h : OwB w base A n c bs) : bs.length = n := by have := h.1; simpa using this
theorem OwB.sl (h : OwB w base A n c bs) : SlB w w.heap.size A n c bs := Row.sl h
theorem OwB.nil (w : World) (base : Nat) (A : Option Addr) : OwB w base A 0 0 [] := Row.nil _ _ _ _ _
theorem OwB.below (h : OwB w base A n c bs) (hb : Below w.heap.size w w') : OwB w' base A n c bs := Row.below h hb

theorem SlB.read {P : Program} (h : SlB w B A n c bs) : (Conv.bytesToString (.slice A n c)).run P w = .ok (.string ⟨bs.toArray⟩) w := by
  have fold : ∀ (l : List UInt8) (r : ByteArray), List.foldl (fun (r : ByteArray) (n : Int) => r.push (UInt8.ofNat n.toNat)) r (l.map fun x => (x.toNat : Int)) = ⟨r.data ++ l.toArray⟩ := by
    intro l
    induction l with
    | nil => intro r; simp
    | cons x l ih =>
      intro r
      simp only [List.map_cons, List.foldl_cons, ih]
      simp [ByteArray.push]
  rcases Nat.eq_zero_or_pos n with hn | hn
  · obtain rfl : bs = [] := List.eq_nil_of_length_eq_zero (by rw [h.len, hn])
    subst hn
    cases A with
    | none => rfl
    | some a => rw [run_bytesToString w a 0 c [] (by simp [loadCells, loadCellsFrom])]; rfl
  · obtain ⟨b, off, rfl, _, hj⟩ := h.2.2.2 (by have := h.2.1; omega)
    rw [run_bytesToString w ⟨b, off, none⟩ n c (bs.map fun x => (x.toNat : Int)), fold]
    · simp
    · have := run_loadCells_list (P := P) w ⟨b, off, none⟩ (bs.map b8) (fun j v hv => by
        rw [Addr.add_lit]
        exact hj j v hv)
      simp only [List.length_map, h.len] at this
      rw [this]
      congr 2
      simp only [List.map_map]
      rfl
theorem SlB.str (h : SlB w B A n c bs) :
    (convert 22 9 (.slice A n c)).run Try.prog w = .ok (.string ⟨bs.toArray⟩) w := by
  rw [run_convert_bytes_string w _ _ _ A n c Try.underlying22 Try.underlying5 Try.underlying9]
  exact h.read
end

theorem bytes_info : (Try.prog.info? 5).map (fun i => (i.zero, i.size, i.bytes)) = some (some (.int .u8 0), 1, 1) := by kernel_rfl
theorem bytes_elem : Try.prog.elem 22 = 5 := by kernel_rfl

def zeros8 (n : Nat) : Array Value := Array.replicate n (.int .u8 0)
theorem size_zeros8 (n : Nat) : (zeros8 n).size = n := by simp [zeros8]
theorem zeros8_list (n : Nat) : (zeros8 n).toList = (List.replicate n (0 : UInt8)).map b8 := by
  simp [zeros8, b8_def]

/-- 'make([]byte, l, c)'. -/
theorem run_make8 (l c : Nat) (L C : Int) (hL : L = l) (hC : C = c) (hlc : l ≤ c) (hb : c ≤ 281474976710656) (w : World) :
    (Instr.makeSlice 22 (.int .i64 L) (.int .i64 C)).run Try.prog w = .ok (.slice (some ⟨w.heap.size, 0, none⟩) l c) (w.alloc (.cells (zeros8 c) 5)) := by
  obtain ⟨i0, hi, hz0, hz1, hz2⟩ := info_parts bytes_info
  subst hL hC
  have hr := run_make_rowN (P := Try.prog) 22 5 i0 _ Try.underlying22 hi hz0 .i64 .i64 l c hlc (by rw [hz2]; omega) (by omega) w
  rw [hr, hz1]
  have e : madeCells (Value.cells (.int .u8 0)) (c * 1) = zeros8 c := ?_
  · rw [e]
  apply Array.ext_getElem?
  intro k
  simp [madeCells, zeros8, Value.cells, Nat.mod_one]
  by_cases h : k < c <;> simp [h]

theorem wpList_append8 {ops : Array Oper} {rest : List Oper} {o : Oper} {a : Act} {Q : Exit → Act → World → Prop} {w : World} (hgd : o.guard = none) (s x : Operand)
    (ho : o.op = .call { callee := .builtin .append, args := #[s, x], argTypes := #[22, 22] })
    {base : Nat} {A : Option Addr} {n c : Nat} {xs : List UInt8} (hs : a.eval s = .slice A n c) (hown : OwB w base A n c xs)
    {B : Nat} {A2 : Option Addr} {m c2 : Nat} {news : List UInt8} (hx : a.eval x = .slice A2 m c2) (hr : SlB w B A2 m c2 news)
    (hbytes : n + m ≤ 140737488355328) (hbase : base ≤ w.heap.size) (k : Nat) (hk : n + m = k)
    (h : ∀ A' c' w', OwB w' base A' k c' (xs ++ news) → Went w w' A n c m A' c' → wpList Try.prog ops Q rest (a.put o.dst (.slice A' k c')) w') :
    wpList Try.prog ops Q (o :: rest) a w := by
  subst hk
  obtain ⟨i0, hi, hz0, hz1, hz2⟩ := info_parts bytes_info
  refine wpList_append_row hgd s x _ ho Try.underlying22 hi hz0 hz1 hz2 rfl hs hown hx hr (b8_one _) (by omega) (by simp only [maxLen]; omega) hbase fun A' c' w' h1 h2 => h A' c' w' ?_ h2
  rw [OwB, List.map_append]
  exact h1

theorem SlB.new (w : World) (cur : Array Value) (bs : List UInt8) (m : Nat) {B : Nat} (hB : w.heap.size < B) (hm : bs.length = m) (hx : m ≤ maxLen) (hc : cur.toList = bs.map b8) :
    SlB (w.alloc (.cells cur 5)) B (some ⟨w.heap.size, 0, none⟩) m m bs := by
  refine ⟨by simpa using hm, Nat.le_refl _, hx, fun _ => ⟨w.heap.size, 0, rfl, hB, fun j u hu => ?_⟩⟩
  rw [(Blk.new w 5 cur).cell, Nat.zero_add, ← Array.getElem?_toList, hc]
  exact hu
theorem SlB.alloc {w : World} {B : Nat} {A : Option Addr} {n c : Nat} {bs : List UInt8} (h : SlB w B A n c bs) (hB : B ≤ w.heap.size) (o : Obj) : SlB (w.alloc o) B A n c bs :=
  h.keep fun p hp => World.cell?_alloc_lt w o p (by omega)
theorem OwB.new (w : World) (base c : Nat) (hb : base ≤ w.heap.size) (hc : c ≤ maxLen) : OwB (w.alloc (.cells (zeros8 c) 5)) base (some ⟨w.heap.size, 0, none⟩) 0 c [] := by
  have := Row.new w base 5 1 (zeros8 c) 0 c hb (Nat.zero_le _) hc (by simp [size_zeros8])
  simpa [OwB] using this
theorem OwB.full (w : World) (base n : Nat) (hb : base ≤ w.heap.size) (hn : n ≤ maxLen) : OwB (w.alloc (.cells (zeros8 n) 5)) base (some ⟨w.heap.size, 0, none⟩) n n (List.replicate n 0) := by
  have := Row.new w base 5 1 (zeros8 n) n n hb (Nat.le_refl _) hn (by simp [size_zeros8])
  rw [zeros8_list, List.take_of_length_le (by simp)] at this
  exact this
theorem OwB.lit (w : World) (base : Nat) (cur : Array Value) (bs : List UInt8) (m : Nat) (hb : base ≤ w.heap.size) (hm : bs.length = m) (hx : m ≤ maxLen) (hc : cur.toList = bs.map b8) :
    OwB (w.alloc (.cells cur 5)) base (some ⟨w.heap.size, 0, none⟩) m m bs := by
  have := Row.new w base 5 1 cur m m hb (Nat.le_refl _) hx (by rw [← Array.length_toList, hc]; simpa using hm)
  rw [hc, List.take_of_length_le (by simp [hm])] at this
  exact this
theorem OwB.alloc {w : World} {base : Nat} {A : Option Addr} {n c : Nat} {bs : List UInt8} (h : OwB w base A n c bs) (o : Obj) : OwB (w.alloc o) base A n c bs := Row.alloc h o
theorem OwB.trim {w : World} {base : Nat} {A : Option Addr} {n c : Nat} {bs : List UInt8} (h : OwB w base A n c bs) {k : Nat} (hk : k ≤ n) : OwB w base A k c (bs.take k) := by
  have := Row.trim h hk
  rw [Nat.mul_one, ← List.map_take] at this
  exact this

/-- A cut 's[lo:]', its address under one name. -/
theorem SlB.tailRun {w : World} {B : Nat} {A : Option Addr} {n c : Nat} {bs : List UInt8} (h : SlB w B A n c bs) {lo : Nat} (hl : lo ≤ n) :
    ∃ A2, SlB w B A2 (n - lo) (c - lo) (bs.drop lo) ∧ ∀ W, (Instr.sliceAt 22 (.slice A n c) (some (.int .i64 (lo : Int))) none none).run Try.prog W = .ok (.slice A2 (n - lo) (c - lo)) W := by
  refine ⟨_, h.tail hl, fun W => ?_⟩
  have he : Try.prog.underlying 22 = some (.slice (Try.prog.elem 22)) := by rw [bytes_elem]; exact Try.underlying22
  have hs : (sizeOf (Try.prog.elem 22)).run Try.prog W = .ok 1 W := by rw [bytes_elem]; kernel_rfl
  rw [run_sliceAt_slice W _ _ _ _ _ he, run_slice_l W _ A n c he .i64 lo (by omega) (by omega), hs]
  simp [Result.andThen, sliced]
end Go.Proofs.Ytkiiobfomnggcaa
end

/-
  Byte slices, more.
-/
section
namespace Go.Proofs.Ytkiiobfomnggcaa
open Go.RowKit
set_option linter.unusedVariables false

/-- The same of an append that a guard lets through. -/
theorem wpList_append8W {ops : Array Oper} {rest : List Oper} {o : Oper} {a : Act} {Q : Exit → Act → World → Prop} {w : World} (hw : Region.wanted o (yielded ops a.tmps) = true) (s x : Operand)
    (ho : o.op = .call { callee := .builtin .append, args := #[s, x], argTypes := #[22, 22] })
    {base : Nat} {A : Option Addr} {n c : Nat} {xs : List UInt8} (hs : a.eval s = .slice A n c) (hown : OwB w base A n c xs)
    {B : Nat} {A2 : Option Addr} {m c2 : Nat} {news : List UInt8} (hx : a.eval x = .slice A2 m c2) (hr : SlB w B A2 m c2 news)
    (hbytes : n + m ≤ 140737488355328) (hbase : base ≤ w.heap.size) (k : Nat) (hk : n + m = k)
    (h : ∀ A' c' w', OwB w' base A' k c' (xs ++ news) → Went w w' A n c m A' c' → wpList Try.prog ops Q rest (a.put o.dst (.slice A' k c')) w') :
    wpList Try.prog ops Q (o :: rest) a w := by
  subst hk
  obtain ⟨i0, hi, hz0, hz1, hz2⟩ := info_parts bytes_info
  refine BigFrame.wpList_want hw fun K hK => ?_
  obtain ⟨A', c', w', hrun, h2, h3⟩ := run_append_row (P := Try.prog) (ty := o.type) Try.underlying22 hi hz0 hz1 hz2 rfl hown hr (b8_one _) (by omega) (by simp only [maxLen]; omega) hbase
  unfold Oper.wp execOp
  simp only [ho, resolve, invoke, builtin, Sem.run_bind, Sem.run_pure, Result.andThen_ok, List.map_toArray, List.map_cons, List.map_nil, hs, hx, hrun]
  refine hK _ _ (h A' c' w' ?_ h3)
  rw [OwB, List.map_append]
  exact h2

/-- A cut 's[lo:hi]', its address under one name. -/
theorem SlB.cutRun {w : World} {B : Nat} {A : Option Addr} {n c : Nat} {bs : List UInt8} (h : SlB w B A n c bs) {lo hi : Nat} (hl : lo ≤ hi) (hh : hi ≤ n) (L H : Int) (hL : L = lo) (hH : H = hi) :
    ∃ A2, SlB w B A2 (hi - lo) (c - lo) ((bs.drop lo).take (hi - lo)) ∧ ∀ W, (Instr.sliceAt 22 (.slice A n c) (some (.int .i64 L)) (some (.int .i64 H)) none).run Try.prog W = .ok (.slice A2 (hi - lo) (c - lo)) W := by
  subst hL hH
  refine ⟨_, h.cut hl hh, fun W => ?_⟩
  have hc := h.le
  have he : Try.prog.underlying 22 = some (.slice (Try.prog.elem 22)) := by rw [bytes_elem]; exact Try.underlying22
  have hs : (sizeOf (Try.prog.elem 22)).run Try.prog W = .ok 1 W := by rw [bytes_elem]; kernel_rfl
  rw [run_sliceAt_slice W _ _ _ _ _ he, run_slice_lh W _ A n c he .i64 .i64 lo hi (by omega) (by omega) (by omega), hs]
  simp [Result.andThen, sliced]
end Go.Proofs.Ytkiiobfomnggcaa
end

/-
  Byte slices of the call's own: opened, written.
-/
section
namespace Go.Proofs.Ytkiiobfomnggcaa
open Go.RowKit
set_option linter.unusedVariables false

section
variable {w w' : World} {base : Nat} {A : Option Addr} {n c : Nat} {bs : List UInt8}
theorem OwB.le (h : OwB w base A n c bs) : n ≤ c := h.2.1
theorem OwB.cap (h : OwB w base A n c bs) : c ≤ 9223372036854775807 := h.2.2.1
/-- Where there is room: the block, its cells, what they hold. -/
theorem OwB.open_ (h : OwB w base A n c bs) (hc : 0 < c) : ∃ g cur, A = some ⟨g, 0, none⟩ ∧ base ≤ g ∧ Blk w g 5 cur ∧ c ≤ cur.size ∧ cur.toList.take n = bs.map b8 := by
  obtain ⟨g, cur, e, hg, hb, hs, ht⟩ := h.2.2.2 hc
  exact ⟨g, cur, e, hg, hb, by rw [Nat.mul_one] at hs; exact hs, by rw [← ht, Nat.mul_one]⟩
theorem OwB.shut {g : Nat} {cur : Array Value} (hb : Blk w g 5 cur) (hg : base ≤ g) (hs : c ≤ cur.size) (hn : n ≤ c) (hc : c ≤ maxLen) (ht : cur.toList.take n = bs.map b8) (hl : bs.length = n) : OwB w base (some ⟨g, 0, none⟩) n c bs :=
  ⟨by rw [List.length_map, hl, Nat.mul_one], hn, hc, fun _ => ⟨g, cur, rfl, hg, hb, by rw [Nat.mul_one]; exact hs, by rw [Nat.mul_one, ht]⟩⟩
theorem take_get {cur : Array Value} {n : Nat} {bs : List UInt8} (ht : cur.toList.take n = bs.map b8) {j : Nat} (hj : j < bs.length) : cur[j]? = some (b8 bs[j]) := by
  have hl : (cur.toList.take n).length = bs.length := by rw [ht, List.length_map]
  rw [List.length_take] at hl
  have h1 : (cur.toList.take n)[j]? = cur[j]? := by rw [List.getElem?_take, if_pos (by omega)]; simp
  rw [← h1, ht, List.getElem?_map, List.getElem?_eq_getElem hj]
  rfl
theorem OwB.cellAt {g : Nat} (h : OwB w base (some ⟨g, 0, none⟩) n c bs) {j : Nat} (hj : j < bs.length) : w.cell? ⟨g, j, none⟩ = some (.int .u8 (bs[j].toNat : Int)) := by
  have hl := h.len
  obtain ⟨g', cur, e, _, hb, _, ht⟩ := h.open_ (by have := h.2.1; omega)
  simp only [Option.some.injEq, Addr.mk.injEq, and_true] at e
  subst e
  rw [hb.cell, take_get ht hj]
  rfl
theorem OwB.frozenAt {g : Nat} (h : OwB w base (some ⟨g, 0, none⟩) n c bs) (hc : 0 < c) (j : Nat) : w.frozen? ⟨g, j, none⟩ = false := by
  obtain ⟨g', cur, e, _, hb, _, ht⟩ := h.open_ hc
  simp only [Option.some.injEq, Addr.mk.injEq, and_true] at e
  subst e
  exact hb.frozen j
/-- A byte is written. -/
theorem OwB.set_ {g : Nat} (h : OwB w base (some ⟨g, 0, none⟩) n c bs) {j : Nat} (hj : j < n) (x : UInt8) : OwB (w.setCell ⟨g, j, none⟩ (.int .u8 (x.toNat : Int))) base (some ⟨g, 0, none⟩) n c (bs.set j x) := by
  have hl := h.len
  obtain ⟨g', cur, e, hg, hb, hs, ht⟩ := h.open_ (by have := h.2.1; omega)
  simp only [Option.some.injEq, Addr.mk.injEq, and_true] at e
  subst e
  refine OwB.shut (hb.set_ j _) hg (by rw [Array.size_setIfInBounds]; exact hs) h.2.1 h.2.2.1 ?_ (by rw [List.length_set, hl])
  rw [Array.toList_setIfInBounds, List.take_set, ht, List.map_set]
  rfl
end
/-- The same rows side by side: a byte changed makes another row. -/
theorem set_ne {bs : List UInt8} {j : Nat} (hj : j < bs.length) {x : UInt8} (hx : x ≠ bs[j]) : bs ≠ bs.set j x := by
  intro e
  have h : bs[j]? = (bs.set j x)[j]? := by rw [← e]
  rw [List.getElem?_set_self hj, List.getElem?_eq_getElem hj, Option.some.injEq] at h
  exact hx h.symm
end Go.Proofs.Ytkiiobfomnggcaa
end

/-
  Arrays as values: alloc, load, store, copy and '==' at arrays of integers.
-/
section
namespace Go.Proofs.Ytkiiobfomnggcaa
open Go.RowKit
set_option linter.unusedVariables false

/-- Cells with others laid over them from place 'off' on. -/
def splice (cur : Array Value) (off : Nat) (vs : List Value) : Array Value := (cur.toList.take off ++ vs ++ cur.toList.drop (off + vs.length)).toArray
theorem size_splice (cur : Array Value) (off : Nat) (vs : List Value) (h : off + vs.length ≤ cur.size) : (splice cur off vs).size = cur.size := by
  simp [splice]; omega
theorem splice_get (cur : Array Value) (off : Nat) (vs : List Value) (h : off + vs.length ≤ cur.size) (j : Nat) :
    (splice cur off vs)[j]? = if off ≤ j ∧ j < off + vs.length then vs[j - off]? else cur[j]? := by
  have h1 : (splice cur off vs)[j]? = (cur.toList.take off ++ vs ++ cur.toList.drop (off + vs.length))[j]? := by simp [splice]
  rw [h1]
  have hlen : (cur.toList.take off).length = off := by simp; omega
  by_cases ha : j < off
  · rw [List.append_assoc, List.getElem?_append_left (by omega), List.getElem?_take, if_pos ha, if_neg (by omega)]; simp
  · by_cases hb : j < off + vs.length
    · rw [List.append_assoc, List.getElem?_append_right (by omega), hlen, List.getElem?_append_left (by omega), if_pos (by omega)]
    · rw [List.getElem?_append_right (by rw [List.length_append, hlen]; omega), List.length_append, hlen, List.getElem?_drop, if_neg (by omega), show off + vs.length + (j - (off + vs.length)) = j from by omega]
      simp
theorem splice_whole (cur : Array Value) (vs : List Value) (h : vs.length = cur.size) : splice cur 0 vs = vs.toArray := by
  simp [splice, h]

/-- An array of bytes, of words of 32 bits, as cells. -/
def arr8 (bs : List UInt8) : Array Value := (bs.map b8).toArray
def b32 (x : UInt32) : Value := .int .u32 (x.toNat : Int)
def arr32 (ws : List UInt32) : Array Value := (ws.map b32).toArray
theorem size_arr8 (bs : List UInt8) : (arr8 bs).size = bs.length := by simp [arr8]
theorem size_arr32 (ws : List UInt32) : (arr32 ws).size = ws.length := by simp [arr32]
theorem arr8_get (bs : List UInt8) (j : Nat) : (arr8 bs)[j]? = (bs[j]?).map b8 := by simp [arr8]
theorem arr32_get (ws : List UInt32) (j : Nat) : (arr32 ws)[j]? = (ws[j]?).map b32 := by simp [arr32]

section
variable {P : Program} {o : Oper} {a : Act} {w : World} {K : Act → World → Prop} {Q : Exit → Act → World → Prop}

/-- The type is an array or a struct of so many cells. -/
def AggT (P : Program) (T : TypeId) (n : Nat) : Prop := (∃ d, P.underlying T = some d ∧ (match d with | .struct _ | .array _ _ => true | _ => false) = true) ∧ (P.info? T).map (·.size) = some n

theorem AggT.agg_ {T : TypeId} {n : Nat} (h : AggT P T n) (w : World) : (isAgg T).run P w = .ok true w := by
  obtain ⟨⟨d, hu, hd⟩, _⟩ := h
  unfold isAgg
  rw [Sem.run_bind, run_underlying hu w]
  cases d <;> simp_all
theorem AggT.size_ {T : TypeId} {n : Nat} (h : AggT P T n) (w : World) : (sizeOf T).run P w = .ok n w := by
  obtain ⟨_, hi⟩ := h
  cases hq : P.info? T with
  | none => simp [hq] at hi
  | some i =>
    have hs : i.size = n := by simpa [hq] using hi
    simp [Go.sizeOf, typeInfo, hq, hs]

theorem run_loadVar_agg {T : TypeId} (g off : Nat) (vs : Array Value) (hT : AggT P T vs.size) (hc : ∀ j v, vs[j]? = some v → w.cell? ⟨g, off + j, none⟩ = some v) :
    (loadVar T ⟨g, off, none⟩).run P w = .ok (.agg vs) w := by
  have hl : (loadCells ⟨g, off, none⟩ vs.toList.length).run P w = .ok vs.toList.toArray w :=
    run_loadCells_list (P := P) w ⟨g, off, none⟩ vs.toList (fun j v hv => by
      rw [Addr.add_lit]
      exact hc j v (by simpa using hv))
  simp only [Array.length_toList, Array.toArray_toList] at hl
  simp [loadVar, Sem.run_bind, hT.agg_, hT.size_, hl]

theorem wp_load_agg (T : TypeId) (x : Operand) (ho : o.op = .load T x) (g off : Nat) (hx : a.eval x = .pointer (some ⟨g, off, none⟩)) (vs : Array Value) (hT : AggT P T vs.size)
    (hc : ∀ j v, vs[j]? = some v → w.cell? ⟨g, off + j, none⟩ = some v) (h : K (a.put o.dst (.agg vs)) w) : o.wp P a w K Q := by
  unfold Oper.wp execOp
  simp only [ho, hx, Instr.loadAt, Instr.sureAddr, Sem.run_bind, Sem.run_pure, Result.andThen_ok, run_loadVar_agg g off vs hT hc]
  exact h

theorem run_storeVar_agg {T t : TypeId} (g off : Nat) (vs : List Value) (hT : AggT P T vs.length) (cur : Array Value) (hb : Blk w g t cur) (hfit : off + vs.length ≤ cur.size) (h1 : ∀ v ∈ vs, v.oneCell' = true) :
    (storeVar T ⟨g, off, none⟩ (.agg vs.toArray)).run P w = .ok () (w.setRow g (splice cur off vs)) := by
  have hst := run_storeCells_at P g off t vs 0 cur w hb (by simpa using hfit) h1
  simp only [Nat.add_zero] at hst
  simp [storeVar, hT.size_, Value.cells, hst, splice]

theorem Blk.setRow {g : Nat} {t : TypeId} {cur : Array Value} (hb : Blk w g t cur) (cs : Array Value) : Blk (w.setRow g cs) g t cs := setRow_heap w g cur cs t _ hb
theorem grownBy_setRow (w : World) (g : Nat) (cs : Array Value) : w.grownBy (w.setRow g cs) (some g) :=
  ⟨rfl, rfl, rfl, by simp, fun k _ hk => setRow_other w g k _ (fun e => hk (by rw [e]))⟩

theorem wp_store_agg (T : TypeId) (p x : Operand) (ho : o.op = .store T p x) (g off : Nat) (hp : a.eval p = .pointer (some ⟨g, off, none⟩)) (vs : List Value) (hx : a.eval x = .agg vs.toArray) (hT : AggT P T vs.length)
    (t : TypeId) (cur : Array Value) (hb : Blk w g t cur) (hfit : off + vs.length ≤ cur.size) (h1 : ∀ v ∈ vs, v.oneCell' = true)
    (h : ∀ w', Blk w' g t (splice cur off vs) → w.grownBy w' (some g) → w'.heap.size = w.heap.size → K (a.put o.dst undef) w') : o.wp P a w K Q := by
  unfold Oper.wp execOp
  simp only [ho, hp, hx, Instr.storeAt, Instr.sureAddr, Sem.run_bind, Sem.run_pure, Result.andThen_ok, run_storeVar_agg g off vs hT cur hb hfit h1]
  exact h _ (hb.setRow _) (grownBy_setRow _ _ _) (by simp)

theorem wp_alloc_agg (T : TypeId) (ho : o.op = .alloc T) (z : Array Value) (hz : (P.info? T).bind (·.zero) = some (.agg z))
    (h : K (a.put o.dst (.pointer (some ⟨w.heap.size, 0, none⟩))) (w.alloc (.cells z T))) : o.wp P a w K Q := by
  unfold Oper.wp execOp
  cases hq : P.info? T with
  | none => simp [hq] at hz
  | some i =>
    have hs : i.zero = some (.agg z) := by simpa [hq] using hz
    simp only [ho]
    simp [Instr.alloc, zeroValue, typeInfo, hq, hs, newVar, newRow, Value.cells]
    exact h

/-- copy: as many as both have, laid over the destination's cells. -/
theorem run_copy_blk {t e ty : TypeId} (ht : P.underlying t = some (.slice e)) {size : Nat} (hs : (P.info? e).map (·.size) = some size)
    {g off dl dc : Nat} {tb : TypeId} {cur : Array Value} (hb : Blk w g tb cur) {B : Nat} {A : Option Addr} {m c : Nat} {news : List Value} (hr : Sl w B size A m c news)
    (hfit : off + Nat.min m dl * size ≤ cur.size) (h1 : ∀ u ∈ news, u.oneCell' = true) :
    (Builtin.copy_ #[t, t] ty #[.slice (some ⟨g, off, none⟩) dl dc, .slice A m c]).run P w = .ok (goInt (Nat.min m dl)) (w.setRow g (splice cur off (news.take (Nat.min m dl * size)))) := by
  cases hq : P.info? e with
  | none => simp [hq] at hs
  | some i =>
    have hi : i.size = size := by simpa [hq] using hs
    subst hi
    have hle : Nat.min m dl ≤ m := Nat.min_le_left _ _
    have hlen : (news.take (Nat.min m dl * i.size)).length = Nat.min m dl * i.size := by rw [List.length_take, hr.1, Nat.min_eq_left (Nat.mul_le_mul_right _ hle)]
    have hsl : Sl w B i.size A (Nat.min m dl) c (news.take (Nat.min m dl * i.size)) :=
      ⟨hlen, Nat.le_trans hle hr.2.1, hr.2.2.1, fun hc => by
        obtain ⟨b, o, e1, e2, hj⟩ := hr.2.2.2 hc
        exact ⟨b, o, e1, e2, fun j u hu => hj j u (by rw [List.getElem?_take] at hu; split at hu; exact hu; cases hu)⟩⟩
    have hf := run_firstCells_sl (P := P) hsl w (fun _ => rfl)
    have hf' : (Builtin.firstCells i.size (Nat.min m dl) (.slice A m c)).run P w = .ok (news.take (Nat.min m dl * i.size)).toArray w := by
      cases A <;> exact hf
    have hst := run_storeCells_at P g off tb (news.take (Nat.min m dl * i.size)) 0 cur w hb (by rw [hlen]; simpa using hfit) (fun v hv => h1 v (List.mem_of_mem_take hv))
    simp only [Nat.add_zero] at hst
    simp [Builtin.copy_, run_underlying ht, sizeOf, typeInfo, hq, Builtin.lenOf, hf', hst, splice]

theorem wp_copy_blk (d x : Operand) (t : TypeId) (ho : o.op = .call { callee := .builtin .copy, args := #[d, x], argTypes := #[t, t] })
    {e : TypeId} (ht : P.underlying t = some (.slice e)) {size : Nat} (hs : (P.info? e).map (·.size) = some size)
    {g off dl dc : Nat} (hd : a.eval d = .slice (some ⟨g, off, none⟩) dl dc) {tb : TypeId} {cur : Array Value} (hb : Blk w g tb cur)
    {B : Nat} {A : Option Addr} {m c : Nat} {news : List Value} (hx : a.eval x = .slice A m c) (hr : Sl w B size A m c news)
    (hfit : off + Nat.min m dl * size ≤ cur.size) (h1 : ∀ u ∈ news, u.oneCell' = true)
    (h : ∀ w', Blk w' g tb (splice cur off (news.take (Nat.min m dl * size))) → w.grownBy w' (some g) → w'.heap.size = w.heap.size → K (a.put o.dst (goInt (Nat.min m dl))) w') : o.wp P a w K Q := by
  have hrun := run_copy_blk (P := P) (ty := o.type) (dc := dc) (dl := dl) ht hs hb hr hfit h1
  unfold Oper.wp execOp
  simp only [ho, resolve, invoke, builtin, Sem.run_bind, Sem.run_pure, Result.andThen_ok, List.map_toArray, List.map_cons, List.map_nil, hd, hx, hrun]
  exact h _ (hb.setRow _) (grownBy_setRow _ _ _) (by simp)
end

section
variable {P : Program} {ops : Array Oper} {rest : List Oper} {o : Oper} {a : Act} {w : World} {Q : Exit → Act → World → Prop}
theorem wpList_build (hw : Region.wanted o (yielded ops a.tmps) = true) (T : TypeId) (parts : Array (Nat × Operand)) (ho : o.op = .build T parts) (vs : Array (Nat × Value)) (hp : (parts.map fun (i, x) => (i, a.eval x)) = vs) (v : Value)
    (hr : (Instr.build T vs).run P w = .ok v w) (h : wpList P ops Q rest (a.put o.dst v) w) : wpList P ops Q (o :: rest) a w := by
  refine BigFrame.wpList_want hw fun _ hK => ?_
  unfold Oper.wp execOp
  simp only [ho, hp, Sem.run_bind, hr, Result.andThen_ok, Sem.run_pure]
  exact hK _ _ h
theorem wpList_load_agg (hw : Region.wanted o (yielded ops a.tmps) = true) (T : TypeId) (x : Operand) (ho : o.op = .load T x) (g off : Nat) (hx : a.eval x = .pointer (some ⟨g, off, none⟩)) (vs : Array Value) {n : Nat} (hT : AggT P T n) (hn : vs.size = n)
    (hc : ∀ j v, vs[j]? = some v → w.cell? ⟨g, off + j, none⟩ = some v) (h : wpList P ops Q rest (a.put o.dst (.agg vs)) w) : wpList P ops Q (o :: rest) a w :=
  BigFrame.wpList_want hw fun _ hK => wp_load_agg T x ho g off hx vs (hn ▸ hT) hc (hK _ _ h)
theorem wpList_load_whole (hw : Region.wanted o (yielded ops a.tmps) = true) (T : TypeId) (x : Operand) (ho : o.op = .load T x) (g : Nat) (hx : a.eval x = .pointer (some ⟨g, 0, none⟩)) (vs : Array Value) {n : Nat} (hT : AggT P T n) (hn : vs.size = n)
    (t : TypeId) (hb : Blk w g t vs) (h : wpList P ops Q rest (a.put o.dst (.agg vs)) w) : wpList P ops Q (o :: rest) a w :=
  wpList_load_agg hw T x ho g 0 hx vs hT hn (fun j v hv => by rw [Nat.zero_add, hb.cell]; exact hv) h
theorem wpList_store_agg (hw : Region.wanted o (yielded ops a.tmps) = true) (T : TypeId) (p x : Operand) (ho : o.op = .store T p x) (g off : Nat) (hp : a.eval p = .pointer (some ⟨g, off, none⟩)) (vs : List Value) (hx : a.eval x = .agg vs.toArray) {n : Nat} (hT : AggT P T n) (hn : vs.length = n)
    (t : TypeId) (cur : Array Value) (hb : Blk w g t cur) (hfit : off + vs.length ≤ cur.size) (h1 : ∀ v ∈ vs, v.oneCell' = true)
    (h : ∀ w', Blk w' g t (splice cur off vs) → w.grownBy w' (some g) → w'.heap.size = w.heap.size → wpList P ops Q rest (a.put o.dst undef) w') : wpList P ops Q (o :: rest) a w :=
  BigFrame.wpList_want hw fun _ hK => wp_store_agg T p x ho g off hp vs hx (hn ▸ hT) t cur hb hfit h1 fun w' h1 h2 h3 => hK _ _ (h w' h1 h2 h3)
theorem wpList_alloc_agg (hw : Region.wanted o (yielded ops a.tmps) = true) (T : TypeId) (ho : o.op = .alloc T) (z : Array Value) (hz : (P.info? T).bind (·.zero) = some (.agg z))
    (h : wpList P ops Q rest (a.put o.dst (.pointer (some ⟨w.heap.size, 0, none⟩))) (w.alloc (.cells z T))) : wpList P ops Q (o :: rest) a w :=
  BigFrame.wpList_want hw fun _ hK => wp_alloc_agg T ho z hz (hK _ _ h)
theorem wpList_copy_blk (hw : Region.wanted o (yielded ops a.tmps) = true) (d x : Operand) (t : TypeId) (ho : o.op = .call { callee := .builtin .copy, args := #[d, x], argTypes := #[t, t] })
    {e : TypeId} (ht : P.underlying t = some (.slice e)) {size : Nat} (hs : (P.info? e).map (·.size) = some size)
    {g off dl dc : Nat} (hd : a.eval d = .slice (some ⟨g, off, none⟩) dl dc) {tb : TypeId} {cur : Array Value} (hb : Blk w g tb cur)
    {B : Nat} {A : Option Addr} {m c : Nat} {news : List Value} (hx : a.eval x = .slice A m c) (hr : Sl w B size A m c news)
    (hfit : off + Nat.min m dl * size ≤ cur.size) (h1 : ∀ u ∈ news, u.oneCell' = true)
    (h : ∀ w', Blk w' g tb (splice cur off (news.take (Nat.min m dl * size))) → w.grownBy w' (some g) → w'.heap.size = w.heap.size → wpList P ops Q rest (a.put o.dst (goInt (Nat.min m dl))) w') : wpList P ops Q (o :: rest) a w :=
  BigFrame.wpList_want hw fun _ hK => wp_copy_blk d x t ho ht hs hd hb hx hr hfit h1 fun w' h1 h2 h3 => hK _ _ (h w' h1 h2 h3)
theorem results_cell_tmp {n : Nat} {fn : Func} {p t : Tmp} {ty : TypeId} (hr : fn.results = #[.cell p ty, .tmp t]) (tmps : Array Value) (g : Nat) (tb : TypeId) (cs : Array Value) (hT : AggT P ty n) (hn : cs.size = n)
    (hp : tmps.getD p undef = .pointer (some ⟨g, 0, none⟩)) (hb : Blk w g tb cs) : (results fn tmps).run P w = .ok (.tuple #[.agg cs, tmps.getD t undef]) w := by
  have hl := run_loadVar_agg (P := P) (w := w) g 0 cs (hn ▸ hT) (fun j v hv => by rw [Nat.zero_add, hb.cell]; exact hv)
  have hp' : tmps[p]?.getD undef = .pointer (some ⟨g, 0, none⟩) := by simpa using hp
  simp [results, hr, hp', asAddr, hl]
theorem results_cell_one {n : Nat} {fn : Func} {p : Tmp} {ty : TypeId} (hr : fn.results = #[.cell p ty]) (tmps : Array Value) (g : Nat) (tb : TypeId) (cs : Array Value) (hT : AggT P ty n) (hn : cs.size = n)
    (hp : tmps.getD p undef = .pointer (some ⟨g, 0, none⟩)) (hb : Blk w g tb cs) : (results fn tmps).run P w = .ok (.agg cs) w := by
  have hl := run_loadVar_agg (P := P) (w := w) g 0 cs (hn ▸ hT) (fun j v hv => by rw [Nat.zero_add, hb.cell]; exact hv)
  have hp' : tmps[p]?.getD undef = .pointer (some ⟨g, 0, none⟩) := by simpa using hp
  simp [results, hr, hp', asAddr, hl]
/-- A whole array of bytes stored over a block of as many. -/
theorem wpList_store8 (hw : Region.wanted o (yielded ops a.tmps) = true) (T : TypeId) (p x : Operand) (ho : o.op = .store T p x) (g : Nat) (hp : a.eval p = .pointer (some ⟨g, 0, none⟩)) (bs : List UInt8) (hx : a.eval x = .agg (arr8 bs)) {n : Nat} (hT : AggT P T n) (hn : bs.length = n)
    (t : TypeId) (cur : Array Value) (hb : Blk w g t cur) (hc : cur.size = n)
    (h : ∀ w', Blk w' g t (arr8 bs) → w.grownBy w' (some g) → w'.heap.size = w.heap.size → wpList P ops Q rest (a.put o.dst undef) w') : wpList P ops Q (o :: rest) a w :=
  wpList_store_agg hw T p x ho g 0 hp (bs.map b8) hx hT (by simpa using hn) t cur hb (by rw [List.length_map, hn, hc]; omega) (b8_one _) fun w' h1 h2 h3 =>
    h w' (by rw [splice_whole cur _ (by rw [List.length_map, hn, hc])] at h1; exact h1) h2 h3
theorem wpList_store32 (hw : Region.wanted o (yielded ops a.tmps) = true) (T : TypeId) (p x : Operand) (ho : o.op = .store T p x) (g : Nat) (hp : a.eval p = .pointer (some ⟨g, 0, none⟩)) (ws : List UInt32) (hx : a.eval x = .agg (arr32 ws)) {n : Nat} (hT : AggT P T n) (hn : ws.length = n)
    (t : TypeId) (cur : Array Value) (hb : Blk w g t cur) (hc : cur.size = n)
    (h : ∀ w', Blk w' g t (arr32 ws) → w.grownBy w' (some g) → w'.heap.size = w.heap.size → wpList P ops Q rest (a.put o.dst undef) w') : wpList P ops Q (o :: rest) a w :=
  wpList_store_agg hw T p x ho g 0 hp (ws.map b32) hx hT (by simpa using hn) t cur hb (by rw [List.length_map, hn, hc]; omega) (fun u hu => by obtain ⟨x, _, rfl⟩ := List.mem_map.1 hu; rfl) fun w' h1 h2 h3 =>
    h w' (by rw [splice_whole cur _ (by rw [List.length_map, hn, hc])] at h1; exact h1) h2 h3
end

/-! ### '==' of arrays of integers -/
theorem all_range_eq {α : Type} [BEq α] [LawfulBEq α] (d : α) : ∀ (xs ys : List α), xs.length = ys.length → (List.range xs.length).all (fun i => xs.getD i d == ys.getD i d) = (xs == ys)
  | [], [], _ => rfl
  | x :: xs, y :: ys, h => by
    have ih := all_range_eq d xs ys (by simpa using h)
    rw [List.length_cons, List.range_succ_eq_map, List.all_cons, List.all_map]
    simp only [List.getD_cons_zero, Function.comp_def, List.getD_cons_succ, ih]
    simp [List.cons_beq_cons]
  | [], _ :: _, h => by simp at h
  | _ :: _, [], h => by simp at h

theorem run_equalIn_arr {P : Program} (w : World) {α : Type} [BEq α] [LawfulBEq α] (z : α) (f : α → Int) (hf : ∀ x y, (f x == f y) = (x == y)) (k : IntKind) (d : Nat) (t e : TypeId) (n : Nat)
    (ht : P.underlying t = some (.array n e)) (he : P.underlying e = some (.int k)) (hsz : ∀ w, (sizeOf e).run P w = .ok 1 w)
    (xs ys : List α) (hx : xs.length = n) (hy : ys.length = n) :
    (Op.equalIn (d + 2) t (.agg (xs.map fun x => Value.int k (f x)).toArray) (.agg (ys.map fun x => Value.int k (f x)).toArray)).run P w = .ok (xs == ys) w := by
  rw [← all_range_eq z xs ys (hx.trans hy.symm), hx, List.range_eq_range', Op.equalIn]
  simp only [Sem.run_bind, run_underlying ht, Result.andThen_ok, hsz, Std.Legacy.Range.forIn_eq_forIn_range', Std.Legacy.Range.size, Nat.sub_zero, Nat.add_sub_cancel, Nat.div_one]
  have hl : ∀ i ∈ List.range' 0 n 1, i < n := fun i hi => by simpa using (List.mem_range'_1.1 hi).2
  generalize List.range' 0 n 1 = l at hl ⊢
  induction l with
  | nil => simp
  | cons i l ih =>
    have hi : i < n := hl i (by simp)
    have px : (part e (xs.map fun x => Value.int k (f x)).toArray (i * 1)).run P w = .ok (.int k (f (xs.getD i z))) w := by
      simp [part, isAgg, run_underlying he, List.getD, List.getElem?_eq_getElem (show i < xs.length by omega)]
    have py : (part e (ys.map fun x => Value.int k (f x)).toArray (i * 1)).run P w = .ok (.int k (f (ys.getD i z))) w := by
      simp [part, isAgg, run_underlying he, List.getD, List.getElem?_eq_getElem (show i < ys.length by omega)]
    have pe : (Op.equalIn (d + 1) e (.int k (f (xs.getD i z))) (.int k (f (ys.getD i z)))).run P w = .ok (xs.getD i z == ys.getD i z) w := by
      rw [run_equalIn_int w d e k k _ _ he, hf]
    simp only [List.forIn_cons, Sem.run_bind, px, py, pe, Result.andThen_ok, List.all_cons]
    cases hb : (xs.getD i z == ys.getD i z)
    · simp
    · simp only [Bool.not_true, Bool.false_eq_true, if_false, Sem.run_pure, Result.andThen_ok, Bool.true_and]
      exact ih fun j hj => hl j (by simp [hj])

theorem run_equalIn_arr8 {P : Program} (w : World) (t e : TypeId) (n : Nat) (ht : P.underlying t = some (.array n e)) (he : P.underlying e = some (.int .u8)) (hsz : ∀ w, (sizeOf e).run P w = .ok 1 w)
    (xs ys : List UInt8) (hx : xs.length = n) (hy : ys.length = n) :
    (Op.equalIn 10000 t (.agg (arr8 xs)) (.agg (arr8 ys))).run P w = .ok (xs == ys) w :=
  run_equalIn_arr w 0 (fun x : UInt8 => (x.toNat : Int)) (fun x y => by rw [Bool.eq_iff_iff]; simp [← UInt8.toNat_inj]; omega) .u8 9998 t e n ht he hsz xs ys hx hy
theorem run_equalIn_arr32 {P : Program} (w : World) (t e : TypeId) (n : Nat) (ht : P.underlying t = some (.array n e)) (he : P.underlying e = some (.int .u32)) (hsz : ∀ w, (sizeOf e).run P w = .ok 1 w)
    (xs ys : List UInt32) (hx : xs.length = n) (hy : ys.length = n) :
    (Op.equalIn 10000 t (.agg (arr32 xs)) (.agg (arr32 ys))).run P w = .ok (xs == ys) w :=
  run_equalIn_arr w 0 (fun x : UInt32 => (x.toNat : Int)) (fun x y => by rw [Bool.eq_iff_iff]; simp [← UInt32.toNat_inj]; omega) .u32 9998 t e n ht he hsz xs ys hx hy

/-- So many zero bytes. -/
def z8 (n : Nat) : List UInt8 := List.replicate n 0
theorem len_z8 (n : Nat) : (z8 n).length = n := by simp [z8]
theorem z8_drop (n k : Nat) : (z8 n).drop k = z8 (n - k) := by simp [z8]
theorem z8_take (n k : Nat) : (z8 n).take k = z8 (min k n) := by simp [z8]
theorem arr8_one (bs : List UInt8) : ∀ v ∈ bs.map b8, v.oneCell' = true := b8_one bs
theorem splice8 (xs ys : List UInt8) (off : Nat) : splice (arr8 xs) off (ys.map b8) = arr8 (xs.take off ++ ys ++ xs.drop (off + ys.length)) := by
  simp [splice, arr8]
theorem splice32 (xs ys : List UInt32) (off : Nat) : splice (arr32 xs) off (ys.map b32) = arr32 (xs.take off ++ ys ++ xs.drop (off + ys.length)) := by
  simp [splice, arr32]
end Go.Proofs.Ytkiiobfomnggcaa
end

/-
  Arrays as values: an element of one; copies within one block.
-/
section
namespace Go.Proofs.Ytkiiobfomnggcaa
open Go.RowKit
set_option linter.unusedVariables false

theorem arr_index_run {P : Program} {T e : TypeId} {k : IntKind} {N : Nat} (hT : P.underlying T = some (.array N e)) (he : P.underlying e = some (.int k)) (hs : ∀ W, (sizeOf e).run P W = .ok 1 W) (cs : Array Value) (i : Nat) (hi : i < N) (v : Value) (hv : cs[i]? = some v) (W : World) :
    (Instr.index T (.agg cs) (.int .i64 (i : Int))).run P W = .ok v W := by
  simp [Instr.index, asIntOf, run_underlying hT, hs, hi, part, isAgg, run_underlying he, hv]
end Go.Proofs.Ytkiiobfomnggcaa
end

/-
  Numbers of 64 bits: what shifts and bitwise operations on int and uint64 do, as numbers.
-/
section
namespace Go.Proofs.Ytkiiobfomnggcaa
open Go.RowKit
set_option linter.unusedVariables false

/-- The number that bytes are, the highest first. -/
def bigN (bs : List UInt8) : Nat := bs.foldl (fun n b => n * 256 + b.toNat) 0
theorem bigN_snoc (bs : List UInt8) (b : UInt8) : bigN (bs ++ [b]) = bigN bs * 256 + b.toNat := by simp [bigN]
theorem take_snoc' (bs : List UInt8) (j : Nat) (x : UInt8) (h : bs[j]? = some x) : bs.take (j + 1) = bs.take j ++ [x] := by
  obtain ⟨hj, e⟩ := List.getElem?_eq_some_iff.1 h
  rw [List.take_succ_eq_append_getElem hj, e]
/-- A number of 64 bits as a signed one. -/
def i64v (n : Nat) : Int := IntKind.i64.wrap (n : Int)
theorem i64v_zero : i64v 0 = 0 := rfl

theorem ofInt_wrap64 (z : Int) : BitVec.ofInt 64 (IntKind.i64.wrap z) = BitVec.ofInt 64 z := by
  apply BitVec.eq_of_toNat_eq
  rw [BitVec.toNat_ofInt, BitVec.toNat_ofInt, IntKind.wrap_i64]
  congr 1
  omega
theorem ofInt_nat64 (n : Nat) : BitVec.ofInt 64 (n : Int) = BitVec.ofNat 64 n := by
  apply BitVec.eq_of_toNat_eq
  rw [BitVec.toNat_ofInt, BitVec.toNat_ofNat]
  omega
theorem ofInt_i64v (n : Nat) : BitVec.ofInt 64 (i64v n) = BitVec.ofNat 64 n := by rw [i64v, ofInt_wrap64, ofInt_nat64]
theorem i64v_mod (n : Nat) : i64v (n % 18446744073709551616) = i64v n := by
  rw [i64v, i64v, IntKind.wrap_i64, IntKind.wrap_i64]; omega
theorem i64v_mul (n m : Nat) : IntKind.i64.wrap (i64v n * (m : Int)) = i64v (n * m) := by
  rw [i64v, i64v, IntKind.wrap_i64, IntKind.wrap_i64, IntKind.wrap_i64]
  have h : ((n : Int) + 9223372036854775808) % 18446744073709551616 = (n : Int) + 9223372036854775808 - 18446744073709551616 * (((n : Int) + 9223372036854775808) / 18446744073709551616) := by omega
  rw [h]
  generalize ((n : Int) + 9223372036854775808) / 18446744073709551616 = q
  have e : ((n : Int) + 9223372036854775808 - 18446744073709551616 * q - 9223372036854775808) * (m : Int) = (n : Int) * (m : Int) - 18446744073709551616 * (q * (m : Int)) := by
    rw [show (n : Int) + 9223372036854775808 - 18446744073709551616 * q - 9223372036854775808 = (n : Int) - 18446744073709551616 * q from by omega, Int.sub_mul, Int.mul_assoc]
  rw [e, ← Int.natCast_mul]
  generalize q * (m : Int) = r
  omega
theorem i64_or_byte (n : Nat) (x : Nat) (hx : x < 256) : bits .or .i64 (wrap64 (i64v n * 256)) (x : Int) = i64v (n * 256 + x) := by
  have h1 : wrap64 (i64v n * 256) = i64v (n * 256) := by rw [← i64v_mul, IntKind.wrap_i64]; unfold wrap64; rfl
  show IntKind.i64.wrap ((BitVec.ofInt 64 (wrap64 (i64v n * 256)) ||| BitVec.ofInt 64 (x : Int)).toNat : Int) = _
  rw [h1, ofInt_i64v, ofInt_nat64, BitVec.toNat_or, BitVec.toNat_ofNat, BitVec.toNat_ofNat, Nat.mod_eq_of_lt (a := x) (by omega),
    nat_join 8 _ _ (by simp only [Nat.reducePow]; omega) (by omega)]
  show i64v _ = _
  rw [← i64v_mod (n * 256 + x), ← i64v_mod]
  congr 1
  simp only [Nat.reducePow]
  omega

/-- A number of 64 bits as an unsigned one. -/
def u64v (n : Nat) : Int := IntKind.u64.wrap (n : Int)
theorem u64v_zero : u64v 0 = 0 := rfl
theorem wrap_u64 (n : Int) : IntKind.u64.wrap n = n % 18446744073709551616 := by simp [IntKind.wrap, IntKind.bits, IntKind.signed]
theorem u64v_step (n x : Nat) : IntKind.u64.wrap (IntKind.u64.wrap (u64v n * 256) + (x : Int)) = u64v (n * 256 + x) := by
  simp only [u64v, wrap_u64]; omega
theorem i64_of_u64v (n : Nat) : IntKind.i64.wrap (u64v n) = i64v n := by
  simp only [u64v, i64v, wrap_u64, IntKind.wrap_i64]; omega
end Go.Proofs.Ytkiiobfomnggcaa
end

/-
  A range over a function: the fenced laws brought to a caller that is walked by the plain words, for iterators that hand out memory of their own.
-/
section
namespace Go.Proofs.Ytkiiobfomnggcaa
open Go.RowKit Go.Shelf
set_option linter.unusedVariables false

/-- The fence of a round of loop l: it forbids nothing. -/
abbrev Rd (l : Nat) : Fence := Fence.wide.inRound l
/-- A fence that forbids nothing. -/
def Free (F : Fence) : Prop := F = Fence.wide ∨ ∃ l, F = Rd l
theorem free_wide : Free Fence.wide := .inl rfl
theorem free_rd (l : Nat) : Free (Rd l) := .inr ⟨l, rfl⟩

section
variable {F : Fence} {n : Nat} {P : Program}
theorem Free.fn (h : Free F) (f : FuncId) : F.fn f := by rcases h with rfl | ⟨l, rfl⟩ <;> exact trivial
theorem Free.depth (h : Free F) : F.depth = none := by rcases h with rfl | ⟨l, rfl⟩ <;> rfl
theorem Free.calls (h : Free F) {f : FuncId} {args : Array Value} {w : World} {R : Ending → World → Prop} (hc : Calls P f args w R) : CallsIn F n P f args w R := by
  rcases h with rfl | ⟨l, rfl⟩
  · exact callsIn_wide.2 hc
  · exact CallsIn.inRound l (callsIn_wide.2 hc)
theorem Free.rows (h : Free F) {row : String} {args : Array Value} {w : World} {R : Value → World → Prop} (hc : Rows P row args w R) : RowsIn F n P row args w R := by
  rcases h with rfl | ⟨l, rfl⟩
  · exact fun c cs _ => let ⟨v, w', r, s⟩ := hc c cs; ⟨v, w', r, stepsIn_wide.2 s⟩
  · exact fun c cs _ => let ⟨v, w', r, s⟩ := hc c cs; ⟨v, w', r, stepsIn_wide.2 s⟩

/-- An operation that is no defer statement: its plain walk serves inside a fence that forbids nothing. -/
theorem wpIn_of_wp (hF : Free F) {o : Oper} {a : Act} {w : World} {K K' : Act → World → Prop} {Q : Exit → Act → World → Prop} (hnd : ∀ c, o.op ≠ .defer c) (hK : ∀ a w, K a w → K' a w)
    (h : o.wp P a w K Q) : o.wpIn F n P a w K' Q := by
  refine ⟨fun f _ => hF.fn f, ?_⟩
  rw [Oper.semAt_plain F _ _ hnd]
  unfold Oper.wp at h
  generalize (execOp a.eval o).run P w = r at h ⊢
  have hd : ¬ F.depth.isSome = true := by rw [hF.depth]; simp
  cases r with
  | ok x w' =>
    cases x with
    | value v => exact hK _ _ h
    | skip => exact hK _ _ h
    | defer d => exact hK _ _ h
    | enter f args =>
      refine ⟨fun e => absurd e hd, hF.calls (h.mono fun e w'' hr => ?_)⟩
      cases e with
      | returned v => exact hK _ _ hr
      | panicked c => exact hr
      | outgrown => exact hr
    | row row args => exact ⟨fun e => absurd e hd, hF.rows (h.mono fun v w'' hr => hK _ _ hr)⟩
    | _ => exact (h : False).elim
  | halt x w' =>
    cases x with
    | panic v => exact h
    | _ => exact (h : False).elim

def noDefer (l : List Oper) : Bool := l.all fun o => match o.op with | .defer _ => false | _ => true
theorem noDefer_op {o : Oper} (h : (match o.op with | .defer _ => false | _ => true) = true) : ∀ c, o.op ≠ .defer c := fun c e => by rw [e] at h; cases h

theorem wpListIn_of (hF : Free F) {ops : Array Oper} {Q : Exit → Act → World → Prop} (hQ : ¬ LetsOut Q) : ∀ {l : List Oper} {a : Act} {w : World}, noDefer l = true → wpList P ops Q l a w → wpListIn F n P ops Q l a w
  | [], a, w, _, h => h
  | o :: l, a, w, hnd, h => by
    have hnd' := hnd
    simp only [noDefer, List.all_cons, Bool.and_eq_true] at hnd'
    simp only [wpList] at h
    simp only [wpListIn]
    split
    · rename_i hw
      rw [if_pos hw] at h
      rcases h with h | ⟨_, h⟩
      · exact wpIn_of_wp hF (noDefer_op hnd'.1) (fun a w hk => wpListIn_of hF hQ (l := l) hnd'.2 hk) h
      · exact absurd h hQ
    · rename_i hw
      rw [if_neg hw] at h
      exact ⟨fun f _ => hF.fn f, wpListIn_of hF hQ (l := l) hnd'.2 h⟩

theorem wpOpsIn_of (hF : Free F) {ops : Array Oper} {Q : Exit → Act → World → Prop} (hQ : ¬ LetsOut Q) (hnd : noDefer ops.toList = true) : ∀ {l : List Nat} {a : Act} {w : World}, wpOps P ops Q l a w → wpOpsIn F n P ops Q l a w
  | [], a, w, h => h
  | i :: l, a, w, h => by
    simp only [wpOps] at h
    simp only [wpOpsIn]
    cases ho : ops[i]? with
    | none => simp only [ho] at h; exact wpOpsIn_of hF hQ hnd h
    | some o =>
      simp only [ho] at h
      have hod : ∀ c, o.op ≠ .defer c := noDefer_op (by
        have := List.all_eq_true.1 hnd o (by
          have := Array.mem_of_getElem? ho
          simpa using this)
        exact this)
      simp only []
      split
      · rename_i hw
        rw [if_pos hw] at h
        rcases h with h | ⟨_, h⟩
        · exact wpIn_of_wp hF hod (fun a w hk => wpOpsIn_of hF hQ hnd hk) h
        · exact absurd h hQ
      · rename_i hw
        rw [if_neg hw] at h
        exact ⟨fun f _ => hF.fn f, wpOpsIn_of hF hQ hnd h⟩

/-- A region in the order of its text. -/
theorem wpIn_region_of (hF : Free F) {id : Nat} {l : List Oper} {Q : Exit → Act → World → Prop} {a : Act} {w : World} (hnd : noDefer l = true) (hQ : ¬ LetsOut Q) (h : wpList P l.toArray Q l a w) :
    (Code.region id l.toArray false).wpIn F n P Q a w :=
  wpIn_region_lit (wpListIn_of hF hQ hnd h)
/-- A region that draws its order and reads, its calls quiet. -/
theorem wpIn_region_quiet_of (hF : Free F) {id : Nat} {Q : Exit → Act → World → Prop} {a : Act} {w : World} {l : List Oper} (hnd : noDefer l = true) (hQ : ¬ LetsOut Q) (hm : P.follows .mixedOrders = true) (hB : Region.lexB .any l.toArray = true)
    (h : wpQuiet P l.toArray (fun w' => ∃ n, w' = w.drewN n) (fun a' => ∀ w', (∃ n, w' = w.drewN n) → Q .normal a' w') l a) : (Code.region id l.toArray true).wpIn F n P Q a w := by
  refine wpIn_region_draw fun t => wpOpsIn_of hF hQ (by simpa using hnd) ?_
  simp only [Region.schedule, hm, Bool.true_or, if_true]
  simp only [Region.lexB, Bool.and_eq_true] at hB
  refine wpAny_sound _ t _ a _ (wpAny_of_quiet (Q := fun a' => ∀ w', (∃ n, w' = w.drewN n) → Q .normal a' w') (fun _ w' hw' h => h w' hw') _ _ _ _ ⟨1, rfl⟩ ?_)
  have := wpAnyQ_lex (C := fun w' => ∃ n, w' = w.drewN n) (md := .any) hB.1 l.toArray.toList 0 (Array.replicate l.toArray.size false) a (by simp) (by simpa using hB.2) (by simpa using h)
  simpa using this
/-- A region that draws its order: every order that may be drawn. -/
theorem wpIn_region_any_of (hF : Free F) {id : Nat} {Q : Exit → Act → World → Prop} {a : Act} {w : World} {ops : Array Oper} (hnd : noDefer ops.toList = true) (hQ : ¬ LetsOut Q) (hm : P.follows .mixedOrders = true)
    (h : wpAny P .any ops Q ops.size (Array.replicate ops.size false) a { w with drawn := w.drawn + 1 }) : (Code.region id ops true).wpIn F n P Q a w := by
  refine wpIn_region_draw fun t => wpOpsIn_of hF hQ hnd ?_
  simp only [Region.schedule, hm, Bool.true_or, if_true]
  exact wpAny_sound _ t _ a _ h
end

section
variable {F : Fence} {n : Nat} {P : Program} {md : Region.Mode} {ops : Array Oper} {w : World}
theorem wpOpIn_of_stOp (hF : Free F) (hnd : noDefer ops.toList = true) {i : Nat} {a : Act} {K : Act → Prop} {K' : Act → World → Prop} {Q' : Exit → Act → World → Prop} (h : ∀ a, K a → K' a w) (hh : stOp P ops w i K a) : wpOpIn F n P ops Q' i K' a w := by
  unfold stOp at hh
  unfold wpOpIn
  split
  · rename_i ho; simp only [ho] at hh; exact h _ hh
  · rename_i o ho
    simp only [ho] at hh
    split
    · rename_i hw
      simp only [hw, if_true] at hh
      have hod : ∀ c, o.op ≠ .defer c := noDefer_op (List.all_eq_true.1 hnd o (by
        have := Array.mem_of_getElem? ho
        simpa using this))
      exact wpIn_of_wp hF hod (fun _ _ hk => hk) (Oper.wp_of_still h hh)
    · rename_i hw; simp only [hw] at hh; exact ⟨fun f _ => hF.fn f, h _ hh⟩

theorem wpAnyIn_of_head (hF : Free F) (hnd : noDefer ops.toList = true) {k g : Nat} {L : Array Bool → Act → Prop} {Q' : Exit → Act → World → Prop} (hL : ∀ listed a, L listed a → wpAnyIn F n P md ops Q' g listed a w) :
    ∀ (f : Nat) (listed : Array Bool) (a : Act), wpAnyL P md ops w k L f listed a → wpAnyIn F n P md ops Q' (f + g) listed a w
  | 0, listed, a, h => by rw [Nat.zero_add]; exact hL _ _ h
  | f + 1, listed, a, h => by
    rw [show f + 1 + g = (f + g) + 1 by omega]
    exact ⟨fun h0 => absurd h0 h.1, fun i hi => wpOpIn_of_stOp hF hnd (fun a' h' => wpAnyIn_of_head hF hnd hL f _ a' h') (h.2 i hi).2⟩

theorem wpAnyIn_of_seq {Q' : Exit → Act → World → Prop} : ∀ (l : List Oper) (k : Nat) (listed : Array Bool) (a : Act) (w : World), (∀ j, l[j]? = ops[k + j]?) →
    Region.seqB md ops l.length k listed = true → wpListIn F n P ops Q' l a w → wpAnyIn F n P md ops Q' l.length listed a w
  | [], _, _, _, _, _, hB, h => ⟨by simpa [Region.seqB] using hB, h⟩
  | o :: l, k, listed, a, w, hl, hB, h => by
    have h0 : ops[k]? = some o := by simpa using (hl 0).symm
    simp only [List.length_cons, Region.seqB, Bool.and_eq_true, decide_eq_true_eq] at hB
    refine ⟨fun h1 => (by rw [hB.1] at h1; cases h1), fun i hi => ?_⟩
    rw [hB.1] at hi
    obtain rfl : i = k := by simpa using hi
    have hw : wpOpIn F n P ops Q' i (wpListIn F n P ops Q' l) a w := by unfold wpOpIn; simp only [h0]; exact h
    exact wpOpIn_mono (fun a' w' h' => wpAnyIn_of_seq l (i + 1) _ a' w' (fun j => by have := hl (j + 1); simpa [Nat.add_assoc, Nat.add_comm 1 j] using this) hB.2 h') hw

/-- A region that draws its order: reads and quiet calls, then a tail in one forced order, a call of yield among it. -/
theorem wpIn_region_tail (hF : Free F) {id : Nat} {Q : Exit → Act → World → Prop} {a : Act} {l : List Oper} (k : Nat) (hnd : noDefer l = true) (hm : P.follows .mixedOrders = true) (hB : Region.lexTailB .any l.toArray k = true)
    (h : wpStill P l.toArray { w with drawn := w.drawn + 1 } (fun a' => wpListIn F n P l.toArray Q (l.drop k) a' { w with drawn := w.drawn + 1 }) (l.take k) a) : (Code.region id l.toArray true).wpIn F n P Q a w := by
  simp only [Region.lexTailB, Bool.and_eq_true, decide_eq_true_eq] at hB
  obtain ⟨⟨⟨⟨hsel, hn⟩, hs⟩, hc⟩, hlex⟩ := hB
  have htl : (l.take k).length = k := by simp at hn ⊢; omega
  have hdl : (l.drop k).length = l.toArray.size - k := by simp
  have inv : HeadInv .any l.toArray k (Array.replicate l.toArray.size false) :=
    ⟨by simp, fun j oj _ hl => (by rw [getD_replicate_false] at hl; cases hl), fun t _ ht => getD_in (by simpa using ht) (getD_replicate_false _ _)⟩
  have H := wpAnyL_lex (md := .any) (g := l.toArray.size - k) hsel hs hc hn (l.take k) 0 _ a (fun j hj => by
    have hj' : j < k := by rw [htl] at hj; exact hj
    simp [hj']) (by simpa using htl) inv (by rw [htl]; exact hlex) h
  refine wpIn_region_any hm ?_
  have := wpAnyIn_of_head (F := F) (n := n) (Q' := Q) (g := l.toArray.size - k) hF (by simpa using hnd) (fun listed a' hL => by
    have := wpAnyIn_of_seq (F := F) (n := n) (md := .any) (Q' := Q) (l.drop k) k listed a' { w with drawn := w.drawn + 1 } (fun j => by simp [List.getElem?_drop]) (by rw [hdl]; exact hL.1) hL.2
    rwa [hdl] at this) _ _ _ H
  rw [htl, show k + (l.toArray.size - k) = l.toArray.size by simp at hn ⊢; omega] at this
  exact this
end

/-- A function whose body holds a range over a function. -/
theorem calls_of_wp_marks {P : Program} {f : FuncId} {fn : Func} {c : Code} {args : Array Value} {w : World} {R : Ending → World → Prop} (hf : P.funcs[f]? = some fn) (hb : fn.body = some c)
    (h : c.wp P (bodyPostM Fence.wide 5 P fn R) { tmps := args ++ Array.replicate (fn.ntmps - args.size) undef, defers := [] } w) : Calls P f args w R :=
  (callsIn_wide (n := 5)).1 (callsIn_of_wp_marks hf hb trivial (wpIn_wide.2 h))

/-! ### What a turn of the law's own books leaves as it lay -/
/-- New blocks may have been laid; of those that lay, one at most has turned: it lies from B on and holds no cells. -/
def Calm (B : Nat) (W W' : World) : Prop := ∃ row, W.grownBy W' row ∧ ∀ r, row = some r → B ≤ r ∧ ∃ o : Obj, W.heap[r]? = some o ∧ o.isCells = false
section
variable {W W' w : World} {B : Nat}
theorem Calm.size (h : Calm B W W') : W.heap.size ≤ W'.heap.size := h.choose_spec.1.size
theorem Calm.blk (h : Calm B W W') {g : Nat} {t : TypeId} {cs : Array Value} (hb : Blk W g t cs) : Blk W' g t cs := by
  obtain ⟨row, hg, hr⟩ := h
  refine hb.grown hg fun e => ?_
  obtain ⟨_, o, ho, hc⟩ := hr g e.symm
  rw [show W.heap[g]? = _ from hb] at ho
  cases ho
  cases hc
theorem Calm.cell (h : Calm B W W') {p : Addr} {v : Value} (hp : W.cell? p = some v) : W'.cell? p = some v := by
  obtain ⟨row, hg, hr⟩ := h
  exact cell_kept hp hg fun r e => (hr r e).2
theorem Calm.below (h : Calm B W W') {n₀ : Nat} (hb : Below n₀ w W) (hn : n₀ ≤ B) (hw : n₀ ≤ w.heap.size) : Below n₀ w W' := by
  obtain ⟨row, hg, hr⟩ := h
  exact hb.grown hg (Nat.le_trans hw hb.size) fun k e => Nat.le_trans hn (hr k e).1
theorem Calm.row (h : Calm B W W') {base : Nat} {e : TypeId} {size : Nat} {A : Option Addr} {n c : Nat} {xs : List Value} (hr : Row W base e size A n c xs) : Row W' base e size A n c xs :=
  ⟨hr.1, hr.2.1, hr.2.2.1, fun hc => by
    obtain ⟨g, cur, e1, hg, hb, hs, ht⟩ := hr.2.2.2 hc
    exact ⟨g, cur, e1, hg, h.blk hb, hs, ht⟩⟩
theorem Calm.sl (h : Calm B W W') {base size : Nat} {A : Option Addr} {n c : Nat} {xs : List Value} (hr : Sl W base size A n c xs) : Sl W' base size A n c xs :=
  ⟨hr.1, hr.2.1, hr.2.2.1, fun hc => by
    obtain ⟨b, off, e1, hb, hj⟩ := hr.2.2.2 hc
    exact ⟨b, off, e1, hb, fun j u hu => h.cell (hj j u hu)⟩⟩
theorem Calm.of_below (hb : Below W.heap.size W W') : Calm B W W' := ⟨none, ⟨hb.os, hb.tape, hb.output, hb.size, fun k hk _ => hb.block k hk⟩, fun r e => by cases e⟩
theorem Calm.keeps (h : Calm B W W') : True := trivial
theorem ownFrom_of {β : Type} {I : β → World → Prop} (h : ∀ s W W', I s W → Calm B W W' → I s W') : OwnFrom B I := fun s W W' row hs hg hr => h s W W' hs ⟨row, hg, hr⟩
theorem OwnFrom.calm {β : Type} {I : β → World → Prop} (h : OwnFrom B I) {s : β} (hs : I s W) (hc : Calm B W W') : I s W' := by
  obtain ⟨row, hg, hr⟩ := hc
  exact h s W W' row hs hg hr
theorem calm_putObj {l : Nat} {o : Obj} (o' : Obj) (hB : B ≤ l) (hl : W.heap[l]? = some o) (ho : o.isCells = false) : Calm B W (W.putObj l o') :=
  ⟨some l, grownBy_putObj' W l o', fun r e => by cases e; exact ⟨hB, o, hl, ho⟩⟩
theorem calm_alloc (o : Obj) : Calm B W (W.alloc o) := ⟨none, World.grownBy_alloc W o none, fun r e => by cases e⟩
/-- What lies below the new blocks stands: what is no cells and lies there stands. -/
theorem keepsFrom_below (h : Below W.heap.size W W') : KeepsFrom B W W' := ⟨h.size, fun k o _ hk _ => (h.block k (Array.getElem?_eq_some_iff.1 hk).1).trans hk⟩
/-- A turn of one block of cells. -/
theorem keepsFrom_grown {g : Nat} {t : TypeId} {cs : Array Value} (hb : Blk W g t cs) (hg : W.grownBy W' (some g)) : KeepsFrom B W W' :=
  (KeepsOthers.of_grownBy hg fun j o e hj => by
    cases e
    rw [show W.heap[g]? = _ from hb] at hj
    cases hj
    rfl).from B
theorem keepsFrom_none (hg : W.grownBy W' none) : KeepsFrom B W W' := (KeepsOthers.of_grownBy hg fun j o e _ => by cases e).from B
end

/-! ### What a round keeps: all that is not the caller's own -/
/-- O: the blocks that are the caller's own, and may be written; O' those behind a step: what it has laid itself may be among them. -/
structure Kept (O O' : Nat → Prop) (W W' : World) : Prop where
  size : W.heap.size ≤ W'.heap.size
  own : ∀ k, O' k → O k ∨ W.heap.size ≤ k
  same : ∀ k, k < W.heap.size → ¬ O k → W'.heap[k]? = W.heap[k]?
section
variable {O O' O2 : Nat → Prop} {W W' W2 : World}
theorem Kept.refl (O : Nat → Prop) (W : World) : Kept O O W W := ⟨Nat.le_refl _, fun _ h => .inl h, fun _ _ _ => rfl⟩
theorem Kept.trans (h : Kept O O' W W') (k : Kept O' O2 W' W2) : Kept O O2 W W2 :=
  ⟨Nat.le_trans h.size k.size, fun i hi => by
    rcases k.own i hi with h1 | h1
    · exact h.own i h1
    · exact .inr (Nat.le_trans h.size h1),
  fun i hi ho => by
    rw [k.same i (Nat.lt_of_lt_of_le hi h.size) (fun h1 => by
      rcases h.own i h1 with h2 | h2
      · exact ho h2
      · omega)]
    exact h.same i hi ho⟩
theorem Kept.below (h : Below W.heap.size W W') : Kept O O W W' := ⟨h.size, fun _ h => .inl h, fun k hk _ => h.block k hk⟩
theorem Kept.alloc (o : Obj) : Kept O O W (W.alloc o) := Kept.below ((Below.refl _ _).alloc (Nat.le_refl _) _)
theorem Kept.drewN (n : Nat) : Kept O O W (W.drewN n) := ⟨Nat.le_refl _, fun _ h => .inl h, fun _ _ _ => rfl⟩
theorem Kept.grown {g : Nat} (hg : W.grownBy W' (some g)) (ho : O g) : Kept O O W W' := ⟨hg.size, fun _ h => .inl h, fun k hk hn => hg.block k hk (fun e => hn (by cases e; exact ho))⟩
theorem Kept.grownNone (hg : W.grownBy W' none) : Kept O O W W' := ⟨hg.size, fun _ h => .inl h, fun k hk hn => hg.block k hk (fun e => by cases e)⟩
theorem Kept.setCell {g : Nat} (ho : O g) (i : Nat) (v : Value) : Kept O O W (W.setCell ⟨g, i, none⟩ v) := Kept.grown (grownBy_setCell W g i v) ho
/-- What the step has laid becomes one's own. -/
theorem Kept.gain (h : Kept O O W W') (g : Nat) (hg : W.heap.size ≤ g) : Kept O (fun k => O k ∨ k = g) W W' :=
  ⟨h.size, fun k hk => hk.elim (fun h => .inl h) (fun e => .inr (by rw [e]; exact hg)), h.same⟩
theorem Kept.blk (h : Kept O O' W W') {g : Nat} {t : TypeId} {cs : Array Value} (hb : Blk W g t cs) (ho : ¬ O g) : Blk W' g t cs := (h.same g hb.lt ho).trans hb
theorem Kept.far (h : Kept O O' W W') {g : Nat} (hg : g < W.heap.size) (ho : ¬ O g) : ¬ O' g := fun e => by
  rcases h.own g e with h1 | h1
  · exact ho h1
  · omega
theorem Kept.row (h : Kept O O' W W') {base : Nat} {e : TypeId} {size : Nat} {A : Option Addr} {n c : Nat} {xs : List Value} (hr : Row W base e size A n c xs) (ho : ∀ g, A = some ⟨g, 0, none⟩ → 0 < c → ¬ O g) : Row W' base e size A n c xs :=
  ⟨hr.1, hr.2.1, hr.2.2.1, fun hc => by
    obtain ⟨g, cur, e1, hg, hb, hs, ht⟩ := hr.2.2.2 hc
    exact ⟨g, cur, e1, hg, h.blk hb (ho g e1 hc), hs, ht⟩⟩
end

/-- What lies from B on and is not the caller's own is kept. -/
structure KeptFrom (B : Nat) (O : Nat → Prop) (W W' : World) : Prop where
  size : W.heap.size ≤ W'.heap.size
  same : ∀ k, B ≤ k → k < W.heap.size → ¬ O k → W'.heap[k]? = W.heap[k]?
theorem Kept.from_ {O O' : Nat → Prop} {W W' : World} (h : Kept O O' W W') (B : Nat) : KeptFrom B O W W' := ⟨h.size, fun k _ hk ho => h.same k hk ho⟩
theorem KeptFrom.mono {B B' : Nat} {O : Nat → Prop} {W W' : World} (h : KeptFrom B O W W') (hB : B ≤ B') : KeptFrom B' O W W' := ⟨h.size, fun k h1 hk ho => h.same k (Nat.le_trans hB h1) hk ho⟩
theorem Kept.transFrom {B : Nat} {O O' : Nat → Prop} {W W' W2 : World} (h : Kept O O' W W') (k : KeptFrom B O' W' W2) : KeptFrom B O W W2 :=
  ⟨Nat.le_trans h.size k.size, fun i h1 hi ho => by
    rw [k.same i h1 (Nat.lt_of_lt_of_le hi h.size) (fun h2 => by
      rcases h.own i h2 with h3 | h3
      · exact ho h3
      · omega)]
    exact h.same i hi ho⟩

/-! ### The contract of an iterator, and the law for its caller -/
/-- What an iterator (function gf over lb) does: it hands 'encs x' for the x's, as long as each round says yes; of an x that is handed out 'G' holds. 'S': all have come; 'Sp': a round has said no. A round may write the caller's own blocks alone; at the start they are among those that 'Ok' lets. -/
def Iter {α : Type} (P : Program) (gf : Nat) (lb : Array Value) (encs : α → Array Value) (Ok : Nat → Prop) (G : List α → α → World → Prop) (S Sp : List α → Prop) (w : World) : Prop :=
  ∀ (l : Nat) (J : (Nat → Prop) → List α → World → Prop) (Jx : List α → World → Prop) (O : Nat → Prop) (W : World), Below w.heap.size w W → (∀ O, OwnFrom W.heap.size (J O)) → OwnFrom W.heap.size Jx → (∀ k, O k → Ok k ∧ k < W.heap.size) →
    (∀ O pre x W1, J O pre W1 → G pre x W1 → YieldAt Fence.wide 3 P l (encs x) W1 fun e W' =>
      (e = .returned (.bool true) ∧ ∃ O', J O' (pre ++ [x]) W' ∧ Kept O O' W1 W') ∨ (e = .returned (.bool false) ∧ KeptFrom W.heap.size O W1 W' ∧ Jx (pre ++ [x]) W')) →
    J O [] W →
    CallsIn Fence.wide 4 P gf (#[.func (.yield l) #[] #[]] ++ lb) W fun e W' => (∃ v, e = .returned v) ∧ ((∃ O' xs, S xs ∧ J O' xs W') ∨ (∃ pre, Sp pre ∧ Jx pre W'))

/-- How a round's body may be left. -/
def Left {α : Type} (B : Nat) (I : (Nat → Prop) → List α → World → Prop) (Ix : Code → List α → World → Prop) (O : Nat → Prop) (xs : List α) (W : World) : Exit → Act → World → Prop
  | .normal, _, W' => ∃ O', Kept O O' W W' ∧ I O' xs W'
  | .ret, _, W' => KeptFrom B O W W' ∧ Ix .ret xs W'
  | .exit id, _, W' => KeptFrom B O W W' ∧ Ix (.exit id) xs W'
  | _, _, _ => False
theorem left_out {α : Type} {B : Nat} {I : (Nat → Prop) → List α → World → Prop} {Ix : Code → List α → World → Prop} {O : Nat → Prop} {xs : List α} {W : World} : ¬ LetsOut (Left B I Ix O xs W) := fun ⟨_, _, h⟩ => h

/-- 'for .. := range seq { .. }' at a plain caller. -/
theorem wp_range {α : Type} {P : Program} {g : Operand} {ps : Array Tmp} {assign body : Code} {Q : Exit → Act → World → Prop} {a : Act} {w : World}
    {gf : Nat} {lb : Array Value} (hg : a.eval g = .func (.func gf) #[] lb) (eg : Enters P gf) {encs : α → Array Value} {Ok : Nat → Prop} {G : List α → α → World → Prop} {S Sp : List α → Prop} {w0 : World}
    (hseq : Iter P gf lb encs Ok G S Sp w0) (hb0 : Below w0.heap.size w0 w) (hps : ∀ x, (encs x).size = ps.size)
    (O : Nat → Prop) (hO : ∀ k, O k → Ok k ∧ k < w.heap.size)
    (I : (Nat → Prop) → List α → World → Prop) (Ix : Code → List α → World → Prop) (hI : ∀ O, OwnFrom w.heap.size (I O)) (hIx : ∀ c, OwnFrom w.heap.size (Ix c)) (h0 : I O [] w)
    (Ax : (Nat → Prop) → List α → α → Act → World → Prop) (hAx : ∀ O pre x a', OwnFrom w.heap.size (fun (_ : Unit) W => Ax O pre x a' W))
    (hassign : ∀ (l : Nat) (O : Nat → Prop) (pre : List α) (x : α) (W : World) (K : Act → World → Prop), I O pre W → G pre x W → (∀ O1 a' W', Kept O O1 W W' → Ax O1 pre x a' W' → K a' W') →
      assign.wpIn (Rd l) 3 P (Exit.then K (fun _ _ _ => False)) { tmps := (ps.zip (encs x)).foldl (fun t (p, v) => t.setIfInBounds p v) a.tmps, defers := [] } W)
    (hbody : ∀ (l : Nat) (O : Nat → Prop) (pre : List α) (x : α) (a' : Act) (W : World), Ax O pre x a' W → body.wpIn (Rd l) 3 P (Left w.heap.size I Ix O (pre ++ [x]) W) a' W)
    (hdone : ∀ (D : Nat) (O : Nat → Prop) (xs : List α) (W : World), w.heap.size ≤ D → S xs → I O xs W → W.heap[D]? = some (.deferred (some [])) → Q .normal { a with defers := { target := .collected D, args := #[] } :: a.defers } W)
    (hstop : ∀ (D : Nat) (c : Code) (pre : List α) (W : World), w.heap.size ≤ D → Sp pre → Ix c pre W → W.heap[D]? = some (.deferred (some [])) → c.wp P Q { a with defers := { target := .collected D, args := #[] } :: a.defers } W) :
    (Code.rangeFunc g ps assign body).wp P Q a w := by
  refine (wpIn_wide (n := 5)).1 (wpIn_rangeFunc fun fn hfn => ?_)
  -- the two blocks of the law's books: D for the rounds' deferred calls, L the loop's record
  let rc : LoopState → Option Code → Loop := fun st pe => { state := st, pending := pe, fn, tmps := a.tmps, params := ps, assign, body, defers := w.heap.size }
  let W1 : World := (w.alloc (.deferred (some []))).alloc (.loop (rc .ready none))
  have eL : W1.heap[w.heap.size + 1]? = some (.loop (rc .ready none)) := by
    have := World.alloc_heap_new (w.alloc (.deferred (some []))) (.loop (rc .ready none))
    rwa [World.size_alloc] at this
  have eD : W1.heap[w.heap.size]? = some (.deferred (some [])) := (Below.heap_alloc _ _ _ (by simp)).trans (World.alloc_heap_new w _)
  have z1 : W1.heap.size = w.heap.size + 2 := by simp [W1]
  have b1 : Below w0.heap.size w0 W1 := hb0.trans ((((Below.refl _ w).alloc (Nat.le_refl _) _).alloc (by simp) _).mono hb0.size)
  have i1 : I O [] W1 := (hI O).alloc _ ((hI O).alloc _ h0)
  refine ⟨w.heap.size + 1, [{ target := .collected w.heap.size, args := #[] }], W1, { target := .fn (.func gf) lb, args := #[.func (.yield (w.heap.size + 1)) #[] #[]] }, W1, gf,
    #[.func (.yield (w.heap.size + 1)) #[] #[]] ++ lb, W1, run_enterLoop_outer _ _ _ _ _, ?_, ?_, ?_, fun _ => by decide, ?_⟩
  · simp only [resolve, hg]
    simp [go_sem]
  · intro _ _; trivial
  · simp only [invoke, go_sem]
    exact eg _ _
  -- where the books stand while the iterator runs; where they stand when a round has said no
  let Bk : (Nat → Prop) → World → Prop := fun O W => W.heap[w.heap.size + 1]? = some (.loop (rc .ready none)) ∧ W.heap[w.heap.size]? = some (.deferred (some [])) ∧ ¬ O w.heap.size ∧ ¬ O (w.heap.size + 1)
  let Bx : Code → World → Prop := fun c W => W.heap[w.heap.size + 1]? = some (.loop (rc .done (some c))) ∧ W.heap[w.heap.size]? = some (.deferred (some []))
  have far : ∀ {A A' : World} {row : Option Nat} {k : Nat}, A.grownBy A' row → (∀ r, row = some r → W1.heap.size ≤ r ∧ ∃ o : Obj, A.heap[r]? = some o ∧ o.isCells = false) → ∀ {o : Obj}, k < w.heap.size + 2 → A.heap[k]? = some o → A'.heap[k]? = some o :=
    fun {A A' row k} hgr hr {o} hk ho => (hgr.block k (Array.getElem?_eq_some_iff.1 ho).1 fun e => by have := (hr k e.symm).1; omega).trans ho
  have lift : ∀ {A : World} {row : Option Nat}, (∀ r, row = some r → W1.heap.size ≤ r ∧ ∃ o : Obj, A.heap[r]? = some o ∧ o.isCells = false) → ∀ r, row = some r → w.heap.size ≤ r ∧ ∃ o : Obj, A.heap[r]? = some o ∧ o.isCells = false :=
    fun hr r e => ⟨by have := (hr r e).1; omega, (hr r e).2⟩
  refine (hseq (w.heap.size + 1) (fun O pre W => I O pre W ∧ Bk O W) (fun pre W => ∃ c, Ix c pre W ∧ Bx c W) O W1 b1 ?_ ?_ ?_ ?_ ⟨i1, eL, eD, fun h => by have := (hO _ h).2; omega, fun h => by have := (hO _ h).2; omega⟩).mono ?_
  · exact fun O s A A' row hs hgr hr => ⟨hI O s A A' row hs.1 hgr (lift hr), far hgr hr (by omega) hs.2.1, far hgr hr (by omega) hs.2.2.1, hs.2.2.2⟩
  · rintro s A A' row ⟨c, hc, hb⟩ hgr hr
    exact ⟨c, hIx c s A A' row hc hgr (lift hr), far hgr hr (by omega) hb.1, far hgr hr (by omega) hb.2⟩
  · exact fun k hk => ⟨(hO k hk).1, by have := (hO k hk).2; omega⟩
  · rintro O pre x W ⟨hi, hl, hd, hod, hol⟩ hG
    refine ⟨fn, _, assign, body, run_yield hl (hps x), roundIn_of_wpIn hfn (hassign _ O pre x W _ hi hG fun O1 a' Wa ka hax => ?_)⟩
    have hlW : w.heap.size + 1 < W.heap.size := (Array.getElem?_eq_some_iff.1 hl).1
    have hl' := (ka.same _ hlW hol).trans hl
    have hd' := (ka.same _ (by omega) hod).trans hd
    have hlt : w.heap.size + 1 < Wa.heap.size := Nat.lt_of_lt_of_le hlW ka.size
    have hod1 : ¬ O1 w.heap.size := ka.far (by omega) hod
    have hol1 : ¬ O1 (w.heap.size + 1) := ka.far hlW hol
    refine ⟨_, run_beginRound hl' rfl, ?_⟩
    let Wb : World := Wa.putObj (w.heap.size + 1) (.loop { rc .ready none with state := .busy })
    have hlb : Wb.heap[w.heap.size + 1]? = some (.loop { rc .ready none with state := .busy }) := World.putObj_heap_same hlt
    have hdb : Wb.heap[w.heap.size]? = some (.deferred (some [])) := (World.putObj_heap_other (by omega)).trans hd'
    have hbs : Wb.heap.size = Wa.heap.size := World.putObj_size
    refine wpIn_mono (hbody _ O1 pre x a' Wb ((hAx O1 pre x a').putObj (s := ()) _ hax (Nat.le_succ _) hl' rfl)) ?_
    -- the round's end, whatever jump it leaves behind
    have fin : ∀ (jump : Option Code) (W3 : World), KeptFrom w.heap.size O1 Wb W3 → ∃ W4, W4 = W3.putObj (w.heap.size + 1) (.loop (rc (if jump.isNone then .ready else .done) jump)) ∧
        (Instr.endRound (w.heap.size + 1) jump).run P W3 = .ok (.bool jump.isNone) W4 ∧ Calm w.heap.size W3 W4 ∧
        W4.heap[w.heap.size + 1]? = some (.loop (rc (if jump.isNone then .ready else .done) jump)) ∧ W4.heap[w.heap.size]? = some (.deferred (some [])) := fun jump W3 k3 => by
      have h3 := (k3.same _ (by omega) (by omega) hol1).trans hlb
      exact ⟨_, rfl, run_endRound jump h3, calm_putObj _ (Nat.le_succ _) h3 rfl, World.putObj_heap_same (Array.getElem?_eq_some_iff.1 h3).1, (World.putObj_heap_other (by omega)).trans ((k3.same _ (Nat.le_refl _) (by omega) hod1).trans hdb)⟩
    have left4 : ∀ (W3 W4 : World) (ob : Obj), W4 = W3.putObj (w.heap.size + 1) ob → KeptFrom w.heap.size O1 Wb W3 → KeptFrom W1.heap.size O W W4 := fun W3 W4 ob e4 k3 => by
      refine ⟨by rw [e4, World.putObj_size]; exact Nat.le_trans ka.size (by rw [← hbs]; exact k3.size), fun k h1 hk hn => ?_⟩
      rw [z1] at h1
      have e1 : W4.heap[k]? = W3.heap[k]? := by rw [e4]; exact World.putObj_heap_other (by omega)
      have e2 : W3.heap[k]? = Wb.heap[k]? := k3.same k (by omega) (by rw [hbs]; exact Nat.lt_of_lt_of_le hk ka.size) (ka.far hk hn)
      have e3 : Wb.heap[k]? = Wa.heap[k]? := World.putObj_heap_other (by omega)
      rw [e1, e2, e3, ka.same k hk hn]
    rintro e a3 W3 hp
    cases e with
    | normal =>
      obtain ⟨O', k3, i3⟩ := hp
      obtain ⟨W4, e4, hr, c4, l4, d4⟩ := fin none W3 (k3.from_ _)
      have hs4 : W4.heap.size = W3.heap.size := by rw [e4]; exact World.putObj_size
      have k4 : Kept O O' W W4 := by
        refine ⟨by rw [hs4]; exact Nat.le_trans ka.size (by rw [← hbs]; exact k3.size), fun k hk => ?_, fun k hk hn => ?_⟩
        · rcases k3.own k hk with h1 | h1
          · exact ka.own k h1
          · exact .inr (Nat.le_trans ka.size (by rw [← hbs]; exact h1))
        · by_cases hkl : k = w.heap.size + 1
          · rw [hkl, l4, hl]; rfl
          · have h1 : W4.heap[k]? = W3.heap[k]? := by rw [e4]; exact World.putObj_heap_other hkl
            have h2 : W3.heap[k]? = Wb.heap[k]? := k3.same k (by rw [hbs]; exact Nat.lt_of_lt_of_le hk ka.size) (ka.far hk hn)
            have h3 : Wb.heap[k]? = Wa.heap[k]? := World.putObj_heap_other hkl
            rw [h1, h2, h3, ka.same k hk hn]
      exact ⟨_, _, hr, .inl ⟨rfl, O', ⟨OwnFrom.calm (hI O') i3 c4, l4, d4, k4.far (by omega) hod, k4.far hlW hol⟩, k4⟩⟩
    | ret =>
      obtain ⟨k3, i3⟩ := hp
      obtain ⟨W4, e4, hr, c4, l4, d4⟩ := fin (some .ret) W3 k3
      exact ⟨_, _, hr, .inr ⟨rfl, left4 W3 W4 _ e4 k3, .ret, OwnFrom.calm (hIx _) i3 c4, l4, d4⟩⟩
    | exit id =>
      obtain ⟨k3, i3⟩ := hp
      obtain ⟨W4, e4, hr, c4, l4, d4⟩ := fin (some (.exit id)) W3 k3
      exact ⟨_, _, hr, .inr ⟨rfl, left4 W3 W4 _ e4 k3, .exit id, OwnFrom.calm (hIx _) i3 c4, l4, d4⟩⟩
    | goto t => exact hp.elim
    | panic ch => exact hp.elim
    | outgrown => exact hp.elim
  · rintro e W2 ⟨⟨v, rfl⟩, ⟨O', xs, hS, hi, hl, hd, _⟩ | ⟨pre, hSp, c, hi, hl, hd⟩⟩
    · exact ⟨none, _, run_endLoop hl (by intro e; cases e), hdone _ O' xs _ (Nat.le_refl _) hS ((hI O').putObj _ hi (Nat.le_succ _) hl rfl) ((World.putObj_heap_other (by omega)).trans hd)⟩
    · exact ⟨some c, _, run_endLoop hl (by intro e; cases e), wpIn_wide.2 (hstop _ c pre _ (Nat.le_refl _) hSp ((hIx c).putObj _ hi (Nat.le_succ _) hl rfl) ((World.putObj_heap_other (by omega)).trans hd))⟩
end Go.Proofs.Ytkiiobfomnggcaa
end

/-
  A region that draws its order and holds calls that make memory and hand back no address: one walk, in the order of its text, in whatever world lies behind.
-/
section
namespace Go.Proofs.Ytkiiobfomnggcaa
open Go.RowKit
set_option linter.unusedVariables false

/-- A world behind w0: what lay in w0 lies. -/
structure Later (w0 : World) where
  w : World
  below : Below w0.heap.size w0 w
instance (w0 : World) : Nonempty (Later w0) := ⟨⟨w0, Below.refl _ _⟩⟩
/-- The class of the worlds behind w0. -/
def Lt (w0 : World) (W : World) : Prop := ∃ X : Later w0, W = X.w

section
variable {P : Program} {w0 : World}
theorem Later.cell (X : Later w0) {g i : Nat} (h : g < w0.heap.size) : X.w.cell? ⟨g, i, none⟩ = w0.cell? ⟨g, i, none⟩ := X.below.cell h
theorem Later.blk (X : Later w0) {g : Nat} {t : TypeId} {cs : Array Value} (h : Blk w0 g t cs) : Blk X.w g t cs := h.below X.below h.lt
theorem Later.cells {g : Nat} {t : TypeId} {cs : Array Value} (h : Blk w0 g t cs) (i : Nat) {v : Value} (hv : cs[i]? = some v) : ∀ X : Later w0, X.w.cell? ⟨g, i, none⟩ = some v := fun X => by rw [(X.blk h).cell, hv]
theorem Later.sl (X : Later w0) {B size : Nat} {A : Option Addr} {n c : Nat} {xs : List Value} (h : Sl w0 B size A n c xs) (hB : B ≤ w0.heap.size) : Sl X.w B size A n c xs := h.below (X.below.mono hB)
/-- A call that makes memory and hands back the one value. -/
theorem Later.call (X : Later w0) {f : FuncId} {args : Array Value} {v : Value} (h : Calls P f args X.w fun e w' => e = .returned v ∧ Below X.w.heap.size X.w w') :
    Calls P f args X.w fun e w' => e = .returned v ∧ ∃ Y : Later w0, w' = Y.w :=
  h.mono fun _ w' ⟨he, hb⟩ => ⟨he, ⟨w', X.below.trans (hb.mono X.below.size)⟩, rfl⟩
/-- A call that only reads. -/
theorem Later.same (X : Later w0) {f : FuncId} {args : Array Value} {v : Value} (h : Calls P f args X.w fun e w' => e = .returned v ∧ X.w = w') :
    Calls P f args X.w fun e w' => e = .returned v ∧ ∃ Y : Later w0, w' = Y.w :=
  h.mono fun _ w' ⟨he, hb⟩ => ⟨he, X, hb.symm⟩

theorem wp_region_later {id : Nat} {Q : Exit → Act → World → Prop} {a : Act} {w : World} {l : List Oper} (hm : P.follows .mixedOrders = true) (hB : Region.lexB .any l.toArray = true)
    (h : wpQuiet P l.toArray (fun W => ∃ X : Later w, W = X.w) (fun a' => ∀ w', (∃ X : Later w, w' = X.w) → Q .normal a' w') l a) : (Code.region id l.toArray true).wp P Q a w :=
  wp_region_quiet (C := fun W => ∃ X : Later w, W = X.w) hm hB ⟨⟨_, (Below.refl _ _).drew⟩, rfl⟩ (by simpa using h)

/-- A whole array or struct loaded. -/
theorem quiet_load_agg {ops : Array Oper} {Q : Act → Prop} {a : Act} {o : Oper} {rest : List Oper} (hw : Region.wanted o (yielded ops a.tmps) = true) (T : TypeId) (x : Operand) (ho : o.op = .load T x) (g : Nat) (hx : a.eval x = .pointer (some ⟨g, 0, none⟩))
    (vs : Array Value) {n : Nat} (hT : AggT P T n) (hn : vs.size = n) (t : TypeId) (hb : Blk w0 g t vs) (h : wpQuiet P ops (fun W => ∃ X : Later w0, W = X.w) Q rest (a.put o.dst (.agg vs))) :
    wpQuiet P ops (fun W => ∃ X : Later w0, W = X.w) Q (o :: rest) a := by
  refine wpQuiet_step fun K hK => ?_
  rw [if_pos hw]
  refine ⟨_, ?_, hK _ h⟩
  rintro W ⟨X, rfl⟩
  unfold Oper.quietAt execOp
  have hl := run_loadVar_agg (P := P) (w := X.w) g 0 vs (hn ▸ hT) (fun j v hv => by rw [Nat.zero_add, (X.blk hb).cell]; exact hv)
  simp only [ho, hx, Instr.loadAt, Instr.sureAddr, Sem.run_bind, Sem.run_pure, Result.andThen_ok, hl]
  exact ⟨rfl, rfl⟩
/-- A composite value is built. -/
theorem quiet_build {ops : Array Oper} {Q : Act → Prop} {a : Act} {o : Oper} {rest : List Oper} (hw : Region.wanted o (yielded ops a.tmps) = true) (T : TypeId) (parts : Array (Nat × Operand)) (ho : o.op = .build T parts) (vs : Array (Nat × Value))
    (hp : (parts.map fun (i, x) => (i, a.eval x)) = vs) (v : Value) (hr : ∀ W, (Instr.build T vs).run P W = .ok v W) (h : wpQuiet P ops (fun W => ∃ X : Later w0, W = X.w) Q rest (a.put o.dst v)) :
    wpQuiet P ops (fun W => ∃ X : Later w0, W = X.w) Q (o :: rest) a := by
  refine wpQuiet_step fun K hK => ?_
  rw [if_pos hw]
  refine ⟨_, ?_, hK _ h⟩
  rintro W ⟨X, rfl⟩
  unfold Oper.quietAt execOp
  simp only [ho, hp, Sem.run_bind, hr, Result.andThen_ok, Sem.run_pure]
  exact ⟨rfl, rfl⟩
end
end Go.Proofs.Ytkiiobfomnggcaa
end

/-
  A region that draws its order, walked once: each operation by itself, from what is known of the operations that come before it in every order.
-/
section
namespace Go.Proofs.Ytkiiobfomnggcaa
open Go.RowKit
set_option linter.unusedVariables false

/-- What is known of the operations' values: number k's is the list's k-th. -/
def phi (Fs : List (Value → World → Prop)) (k : Nat) : Value → World → Prop := (Fs[k]?).getD fun _ _ => True
/-- The frame with some operations' values laid. -/
def puts (u : Nat → Value) : List (Nat × Option Tmp) → Act → Act
  | [], a => a
  | p :: r, a => puts u r (a.put p.2 (u p.1))
def facts (Fs : List (Value → World → Prop)) (u : Nat → Value) (w : World) : List (Nat × Option Tmp) → Prop
  | [] => True
  | p :: r => phi Fs p.1 (u p.1) w ∧ facts Fs u w r
def slotVal (d : Option Tmp) (a : Act) : Value := match d with | some t => a.tmps.getD t undef | none => undef
def dstAt (ops : Array Oper) (k : Nat) : Option Tmp := (ops[k]?).bind (·.dst)

/-- What is left of an operation: the region goes on, nothing is deferred, the world is a later one, the value is as is said. -/
structure RelPost (le : World → World → Prop) (a0 : Act) (d : Option Tmp) (w : World) (F : Value → World → Prop) (x : Exit) (a' : Act) (w' : World) : Prop where
  ends : x = .normal
  defers : a'.defers = a0.defers
  later : le w w'
  says : F (slotVal d a') w'
/-- What is asked of one operation: in every world of the class, the values that it uses being as is known of them, it goes through, and its value is as is said. -/
def Ob (P : Program) (ops : Array Oper) (le : World → World → Prop) (C : World → Prop) (Fs : List (Value → World → Prop)) (a0 : Act) (o : Oper) (m : List (Nat × Option Tmp)) (F : Value → World → Prop) : Prop :=
  ∀ (u : Nat → Value) (w : World), C w → facts Fs u w m → ∀ a, a = puts u m a0 → wpList P ops (RelPost le a0 o.dst w F) [o] a w
inductive AllOb (P : Program) (ops : Array Oper) (le : World → World → Prop) (C : World → Prop) (Fs : List (Value → World → Prop)) (a0 : Act) : List Oper → List (List (Nat × Option Tmp)) → List (Value → World → Prop) → Prop
  | nil : AllOb P ops le C Fs a0 [] [] []
  | cons {o : Oper} {m : List (Nat × Option Tmp)} {F : Value → World → Prop} {os : List Oper} {ms : List (List (Nat × Option Tmp))} {G : List (Value → World → Prop)} (h : Ob P ops le C Fs a0 o m F) (r : AllOb P ops le C Fs a0 os ms G) :
      AllOb P ops le C Fs a0 (o :: os) (m :: ms) (F :: G)
inductive AllMono (le : World → World → Prop) : List (Value → World → Prop) → Prop
  | nil : AllMono le []
  | cons {F : Value → World → Prop} {G : List (Value → World → Prop)} (h : ∀ (v : Value) (w w' : World), le w w' → F v w → F v w') (r : AllMono le G) : AllMono le (F :: G)

/-- The closed facts on a region: its operations wait for elder ones alone; 'cl' says what comes before each one; what an operation looks at is laid, or not written yet. -/
def relB (ops : Array Oper) (us : List (List (Nat × Option Tmp))) (cl : List (List Nat)) (all : List (Nat × Option Tmp)) : Bool :=
  Region.noSelect ops &&
  ((List.range ops.size).map (fun k => (k, dstAt ops k)) == all) &&
  (List.range ops.size).all fun j => match ops[j]? with
    | none => false
    | some o =>
      (o.after.all fun e => !Region.binds .any e || e.on < j) &&
      ((cl.getD j []).all fun k => o.after.any fun e => Region.binds .any e && (e.on == k || (cl.getD e.on []).contains k)) &&
      ((us.getD j []).all fun p => dstAt ops p.1 == p.2 && (cl.getD j []).contains p.1) &&
      ((o.looksAt ops).all fun t => (List.range ops.size).all fun k => dstAt ops k != some t || (us.getD j []).any (fun p => p.1 == k) || (cl.getD k []).contains j || k == j) &&
      ((List.range ops.size).all fun k => k == j || o.dst.isNone || dstAt ops k != o.dst)

structure RelSpec (ops : Array Oper) (us : List (List (Nat × Option Tmp))) (cl : List (List Nat)) (all : List (Nat × Option Tmp)) : Prop where
  sel : Region.noSelect ops = true
  all_ : (List.range ops.size).map (fun k => (k, dstAt ops k)) = all
  elder : ∀ j o, ops[j]? = some o → ∀ e ∈ o.after, Region.binds .any e = true → e.on < j
  clo : ∀ j o, ops[j]? = some o → ∀ k ∈ cl.getD j [], ∃ e ∈ o.after, Region.binds .any e = true ∧ (e.on = k ∨ k ∈ cl.getD e.on [])
  use : ∀ j o, ops[j]? = some o → ∀ p ∈ us.getD j [], dstAt ops p.1 = p.2 ∧ p.1 ∈ cl.getD j []
  look : ∀ j o, ops[j]? = some o → ∀ t ∈ o.looksAt ops, ∀ k, k < ops.size → dstAt ops k = some t → (∃ p ∈ us.getD j [], p.1 = k) ∨ j ∈ cl.getD k [] ∨ k = j
  own : ∀ j o, ops[j]? = some o → ∀ k, k < ops.size → k ≠ j → ∀ t, o.dst = some t → dstAt ops k ≠ some t

theorem relB_spec {ops : Array Oper} {us : List (List (Nat × Option Tmp))} {cl : List (List Nat)} {all : List (Nat × Option Tmp)} (h : relB ops us cl all = true) : RelSpec ops us cl all := by
  simp only [relB, Bool.and_eq_true, List.all_eq_true, List.mem_range, beq_iff_eq] at h
  obtain ⟨⟨h1, h2⟩, h3⟩ := h
  have hj : ∀ j o, ops[j]? = some o → j < ops.size := fun j o h => (Array.getElem?_eq_some_iff.1 h).1
  refine ⟨h1, h2, ?_, ?_, ?_, ?_, ?_⟩
  all_goals
    intro j o ho
    have h4 := h3 j (hj j o ho)
    simp only [ho, Bool.and_eq_true] at h4
    obtain ⟨⟨⟨⟨a1, a2⟩, a3⟩, a4⟩, a5⟩ := h4
  · intro e he hb
    have := Array.all_eq_true_iff_forall_mem.1 a1 e he
    simpa [hb] using this
  · intro k hk
    have := List.all_eq_true.1 a2 k hk
    obtain ⟨e, he, hb⟩ := Array.any_eq_true'.1 this
    simp only [Bool.and_eq_true, Bool.or_eq_true, beq_iff_eq, List.contains_iff_mem] at hb
    exact ⟨e, he, hb.1, hb.2⟩
  · intro p hp
    have := List.all_eq_true.1 a3 p hp
    simpa only [Bool.and_eq_true, beq_iff_eq, List.contains_iff_mem] using this
  · intro t ht k hk hd
    have h5 := List.all_eq_true.1 (List.all_eq_true.1 a4 t ht) k (List.mem_range.2 hk)
    simp only [Bool.or_eq_true, bne_iff_ne, ne_eq, hd, not_true_eq_false, false_or, List.any_eq_true, beq_iff_eq, List.contains_iff_mem] at h5
    rcases h5 with (h5 | h5) | h5
    · exact .inl h5
    · exact .inr (.inl h5)
    · exact .inr (.inr h5)
  · intro k hk hne t ht hd
    have h5 := List.all_eq_true.1 a5 k (List.mem_range.2 hk)
    simp [hne, ht, hd] at h5

section
variable {P : Program} {ops : Array Oper} {le : World → World → Prop} {C : World → Prop} {Fs : List (Value → World → Prop)} {us : List (List (Nat × Option Tmp))} {cl : List (List Nat)} {all : List (Nat × Option Tmp)} {a0 : Act}

theorem AllOb.get : ∀ {l : List Oper} {ms : List (List (Nat × Option Tmp))} {G : List (Value → World → Prop)}, AllOb P ops le C Fs a0 l ms G → ∀ (j : Nat) (o : Oper), l[j]? = some o → Ob P ops le C Fs a0 o (ms.getD j []) ((G[j]?).getD fun _ _ => True)
  | _, _, _, .nil, _, _, h => by simp at h
  | _, _, _, .cons h r, 0, o, e => by
    simp only [List.getElem?_cons_zero, Option.some.injEq] at e
    subst e
    simpa using h
  | _, _, _, .cons h r, j + 1, o, e => by
    have := r.get j o (by simpa using e)
    simpa using this
theorem AllMono.get : ∀ {G : List (Value → World → Prop)}, AllMono le G → ∀ (j : Nat) (v : Value) (w w' : World), le w w' → phi G j v w → phi G j v w'
  | _, .nil, j, _, _, _, _, _ => by simp [phi]
  | _, .cons h r, 0, v, w, w', hl, hp => by
    simp only [phi, List.getElem?_cons_zero, Option.getD_some] at *
    exact h v w w' hl hp
  | _, .cons h r, j + 1, v, w, w', hl, hp => by
    have := r.get j v w w' hl (by simpa [phi] using hp)
    simpa [phi] using this

theorem put_tsize (a : Act) (d : Option Tmp) (v : Value) : (a.put d v).tmps.size = a.tmps.size := by cases d <;> simp [Act.put]
theorem put_defers_eq (a : Act) (d : Option Tmp) (v : Value) : (a.put d v).defers = a.defers := by cases d <;> rfl
theorem put_get_ne {a : Act} {d : Option Tmp} {v : Value} {t : Tmp} (h : d ≠ some t) : (a.put d v).tmps[t]? = a.tmps[t]? := by
  cases d with
  | none => rfl
  | some x => simp only [Act.put]; exact Array.getElem?_setIfInBounds_ne (fun e => h (by rw [e]))
theorem puts_tsize (u : Nat → Value) : ∀ (m : List (Nat × Option Tmp)) (a : Act), (puts u m a).tmps.size = a.tmps.size
  | [], _ => rfl
  | p :: r, a => by rw [puts, puts_tsize u r, put_tsize]
theorem puts_defers (u : Nat → Value) : ∀ (m : List (Nat × Option Tmp)) (a : Act), (puts u m a).defers = a.defers
  | [], _ => rfl
  | p :: r, a => by rw [puts, puts_defers u r, put_defers_eq]
theorem puts_none (u : Nat → Value) {t : Tmp} : ∀ (m : List (Nat × Option Tmp)) (a : Act), (∀ p ∈ m, p.2 ≠ some t) → (puts u m a).tmps[t]? = a.tmps[t]?
  | [], _, _ => rfl
  | p :: r, a, h => by
    rw [puts, puts_none u r _ fun q hq => h q (List.mem_cons_of_mem _ hq)]
    exact put_get_ne (h p (List.mem_cons_self ..))
theorem puts_some (u : Nat → Value) {t : Tmp} {v : Value} : ∀ (m : List (Nat × Option Tmp)) (a : Act), t < a.tmps.size → (∃ p ∈ m, p.2 = some t) → (∀ p ∈ m, p.2 = some t → u p.1 = v) → (puts u m a).tmps[t]? = some v
  | [], _, _, h, _ => by obtain ⟨p, hp, _⟩ := h; cases hp
  | p :: r, a, ht, h, hv => by
    rw [puts]
    by_cases hr : ∃ q ∈ r, q.2 = some t
    · exact puts_some u r _ (by rw [put_tsize]; exact ht) hr fun q hq => hv q (List.mem_cons_of_mem _ hq)
    · have hr' : ∀ q ∈ r, q.2 ≠ some t := fun q hq e => hr ⟨q, hq, e⟩
      rw [puts_none u r _ hr']
      obtain ⟨q, hq, e⟩ := h
      rcases List.mem_cons.1 hq with rfl | hq
      · rw [e, ← hv q (List.mem_cons_self ..) e]
        simp [Act.put, ht]
      · exact absurd e (hr' q hq)

structure RelInv (ops : Array Oper) (C : World → Prop) (Fs : List (Value → World → Prop)) (a0 : Act) (listed : Array Bool) (a : Act) (w : World) : Prop where
  closed : ∀ i o, ops[i]? = some o → listed.getD i false = true → ∀ e ∈ o.after, Region.binds .any e = true → listed.getD e.on false = true
  cls : C w
  defers : a.defers = a0.defers
  tsize : a.tmps.size = a0.tmps.size
  same : ∀ t, (∀ k, k < ops.size → dstAt ops k = some t → listed.getD k false = false) → a.tmps[t]? = a0.tmps[t]?
  fact : ∀ k, k < ops.size → listed.getD k false = true → phi Fs k (slotVal (dstAt ops k) a) w

theorem RelSpec.listed (hs : RelSpec ops us cl all) {listed : Array Bool} (hc : ∀ i o, ops[i]? = some o → listed.getD i false = true → ∀ e ∈ o.after, Region.binds .any e = true → listed.getD e.on false = true) :
    ∀ (n j : Nat) (o : Oper), j ≤ n → ops[j]? = some o → (∀ e ∈ o.after, Region.binds .any e = true → listed.getD e.on false = true) → ∀ k ∈ cl.getD j [], listed.getD k false = true := by
  intro n
  induction n with
  | zero =>
    intro j o hj ho ha k hk
    obtain ⟨e, he, hb, h⟩ := hs.clo j o ho k hk
    have := hs.elder j o ho e he hb
    omega
  | succ n ih =>
    intro j o hj ho ha k hk
    obtain ⟨e, he, hb, h⟩ := hs.clo j o ho k hk
    have hlt := hs.elder j o ho e he hb
    have hl := ha e he hb
    rcases h with rfl | h
    · exact hl
    · have hj' : j < ops.size := (Array.getElem?_eq_some_iff.1 ho).1
      obtain ⟨o', ho'⟩ : ∃ o', ops[e.on]? = some o' := ⟨ops[e.on]'(by omega), Array.getElem?_eq_getElem _⟩
      exact ih e.on o' (by omega) ho' (hc e.on o' ho' hl) k h

theorem getD_false_of_true {listed : Array Bool} {j : Nat} (h : listed.getD j true = false) : listed.getD j false = false := by
  rcases Nat.lt_or_ge j listed.size with h' | h'
  · simp [h'] at h ⊢; exact h
  · simp [Array.getElem?_eq_none h'] at h

theorem relStep1 (hs : RelSpec ops us cl all) (hm : ∀ (j : Nat) (v : Value) (w w' : World), le w w' → phi Fs j v w → phi Fs j v w') (hC : ∀ w w', C w → le w w' → C w')
    {Q : Exit → Act → World → Prop} {listed : Array Bool} {a : Act} {w : World} (hi : RelInv ops C Fs a0 listed a w) {j : Nat} {o : Oper} (ho : ops[j]? = some o) (hob : Ob P ops le C Fs a0 o (us.getD j []) (phi Fs j))
    (hj : j ∈ Region.ready .any ops listed) (hsz : listed.size = ops.size) :
    if Region.wanted o (yielded ops a.tmps) then o.wp P a w (RelInv ops C Fs a0 (listed.setIfInBounds j true)) Q else RelInv ops C Fs a0 (listed.setIfInBounds j true) (a.put o.dst undef) w := by
  obtain ⟨hun, o', ho', hall⟩ := mem_ready.1 hj
  rw [ho] at ho'
  cases ho'
  have hunf := getD_false_of_true hun
  have hjs : j < ops.size := (Array.getElem?_eq_some_iff.1 ho).1
  have hcl := hs.listed hi.closed j j o (Nat.le_refl _) ho hall
  have hfact : facts Fs (fun k => slotVal (dstAt ops k) a) w (us.getD j []) := by
    have H : ∀ (m : List (Nat × Option Tmp)), (∀ p ∈ m, p.1 < ops.size ∧ listed.getD p.1 false = true) → facts Fs (fun k => slotVal (dstAt ops k) a) w m := by
      intro m
      induction m with
      | nil => intro _; trivial
      | cons p r ih => intro h; exact ⟨hi.fact p.1 (h p (List.mem_cons_self ..)).1 (h p (List.mem_cons_self ..)).2, ih fun q hq => h q (List.mem_cons_of_mem _ hq)⟩
    refine H _ fun p hp => ?_
    have h1 := (hs.use j o ho p hp).2
    have hl := hcl p.1 h1
    refine ⟨?_, hl⟩
    rcases Nat.lt_or_ge p.1 ops.size with h | h
    · exact h
    · rw [← hsz] at h
      simp [Array.getElem?_eq_none h] at hl
  have h := hob (fun k => slotVal (dstAt ops k) a) w hi.cls hfact _ rfl
  -- the frames agree on what the operation looks at
  have hlook : ∀ t ∈ o.looksAt ops, a.tmps[t]? = (puts (fun k => slotVal (dstAt ops k) a) (us.getD j []) a0).tmps[t]? := by
    intro t ht
    rcases Nat.lt_or_ge t a0.tmps.size with hlt | hge
    · by_cases hex : ∃ p ∈ us.getD j [], p.2 = some t
      · rw [puts_some _ _ _ hlt hex (v := a.tmps.getD t undef)]
        · have : t < a.tmps.size := by rw [hi.tsize]; exact hlt
          simp [this]
        · intro p hp e
          have := (hs.use j o ho p hp).1
          simp [this, e, slotVal]
      · rw [puts_none _ _ _ fun p hp e => hex ⟨p, hp, e⟩]
        refine hi.same t fun k hk hd => ?_
        rcases hs.look j o ho t ht k hk hd with ⟨p, hp, e⟩ | h1 | rfl
        · exact absurd ⟨p, hp, by rw [← (hs.use j o ho p hp).1, e, hd]⟩ hex
        · cases hk' : listed.getD k false
          · rfl
          · obtain ⟨ok, hok⟩ : ∃ o', ops[k]? = some o' := ⟨ops[k], Array.getElem?_eq_getElem _⟩
            have := hs.listed hi.closed k k ok (Nat.le_refl _) hok (hi.closed k ok hok hk') j h1
            rw [hunf] at this
            cases this
        · exact hunf
    · rw [Array.getElem?_eq_none (by rw [hi.tsize]; exact hge), Array.getElem?_eq_none (by rw [puts_tsize]; exact hge)]
  generalize hb : puts (fun k => slotVal (dstAt ops k) a) (us.getD j []) a0 = b at h hlook
  have hbs : b.tmps.size = a.tmps.size := by rw [← hb, puts_tsize, hi.tsize]
  have hbd : b.defers = a0.defers := by rw [← hb, puts_defers]
  have hexec : execOp b.eval o = execOp a.eval o := execOp_congr o (fun cs c => Region.noSelect_spec hs.sel j o cs c ho) fun x hx => by
    cases x with
    | tmp t =>
      have := hlook t (List.mem_append_left _ (List.mem_filterMap.2 ⟨.tmp t, by simpa using hx, rfl⟩))
      simp [Act.eval, this]
    | _ => rfl
  have hwant : Region.wanted o (yielded ops b.tmps) = Region.wanted o (yielded ops a.tmps) := by
    unfold Region.wanted
    cases hg : o.guard with
    | none => rfl
    | some gw =>
      obtain ⟨g, want⟩ := gw
      have hy : yielded ops b.tmps g = yielded ops a.tmps g := by
        unfold yielded
        cases ht : (ops[g]?).bind (·.dst) with
        | none => rfl
        | some t =>
          have := hlook t (List.mem_append_right _ (by simp [hg, ht]))
          simp [this]
      simp only [hy]
  -- the new state
  have hdst : dstAt ops j = o.dst := by simp [dstAt, ho]
  have next : ∀ (v : Value) (w' : World), le w w' → phi Fs j (slotVal o.dst (b.put o.dst v)) w' → RelInv ops C Fs a0 (listed.setIfInBounds j true) (a.put o.dst v) w' := by
    intro v w' hle hp
    refine ⟨?_, hC _ _ hi.cls hle, by rw [put_defers_eq]; exact hi.defers, by rw [put_tsize]; exact hi.tsize, ?_, ?_⟩
    · intro i oi hoi hl e he hbd
      by_cases hij : j = i
      · subst hij
        rw [ho] at hoi
        cases hoi
        exact getD_set_true (hall e he hbd)
      · rw [getD_set_ne false hij] at hl
        exact getD_set_true (hi.closed i oi hoi hl e he hbd)
    · intro t ht
      have hne : o.dst ≠ some t := fun e => by
        have := ht j hjs (by rw [hdst, e])
        simp [hsz, hjs] at this
      rw [put_get_ne hne]
      refine hi.same t fun k hk hd => ?_
      have := ht k hk hd
      by_cases hjk : j = k
      · subst hjk; exact hunf
      · rwa [getD_set_ne false hjk] at this
    · intro k hk hl
      by_cases hjk : j = k
      · subst hjk
        rw [hdst]
        have e : slotVal o.dst (a.put o.dst v) = slotVal o.dst (b.put o.dst v) := by
          cases hd : o.dst with
          | none => rfl
          | some t =>
            simp only [slotVal, Act.put, Array.getD_eq_getD_getElem?, Array.getElem?_setIfInBounds_self]
            rw [hbs]
        rw [e]
        exact hp
      · rw [getD_set_ne false hjk] at hl
        have h0 := hm k _ w w' hle (hi.fact k hk hl)
        have e : slotVal (dstAt ops k) (a.put o.dst v) = slotVal (dstAt ops k) a := by
          cases hd : dstAt ops k with
          | none => rfl
          | some t =>
            simp only [slotVal, Array.getD_eq_getD_getElem?]
            rw [put_get_ne fun e => hs.own j o ho k hk (Ne.symm hjk) t e hd]
        rw [e]
        exact h0
  -- the operation itself
  simp only [wpList, hwant] at h
  split
  · rename_i hw
    simp only [hw, if_true] at h
    rcases h with h | ⟨_, x, y, h⟩
    · unfold Oper.wp at *
      rw [hexec] at h
      generalize (execOp a.eval o).run P w = r at *
      cases r with
      | ok n w' =>
        cases n <;> simp only [Oper.upon] at h ⊢
        case value v => exact next v w' h.later h.says
        case skip => exact next undef w' h.later h.says
        case defer d =>
          have := h.defers
          rw [put_defers_eq, ← hbd] at this
          exact absurd (congrArg List.length this) (by simp)
        case enter f args =>
          refine Calls.mono h fun e w'' he => ?_
          cases e with
          | returned v => exact next v w'' he.later he.says
          | panicked c => exact absurd he.ends (by simp)
          | outgrown => obtain ⟨x, y, he⟩ := he; exact absurd he.ends (by simp)
        case row row args => exact Rows.mono h fun v w'' he => next v w'' he.later he.says
      | halt x w' =>
        cases x <;> simp only [Oper.upon] at h ⊢
        case panic u => exact absurd h.ends (by simp)
    · exact absurd h.ends (by simp)
  · rename_i hw
    simp only [hw] at h
    exact next undef w h.later h.says

theorem relStep (hs : RelSpec ops us cl all) (hm : ∀ (j : Nat) (v : Value) (w w' : World), le w w' → phi Fs j v w → phi Fs j v w') (hC : ∀ w w', C w → le w w' → C w')
    (hob : ∀ (j : Nat) (o : Oper), ops[j]? = some o → Ob P ops le C Fs a0 o (us.getD j []) (phi Fs j)) {Q : Exit → Act → World → Prop} {listed : Array Bool} {a : Act} {w : World} (hi : RelInv ops C Fs a0 listed a w) {j : Nat}
    (hj : j ∈ Region.ready .any ops listed) (hsz : listed.size = ops.size) : wpOp P ops Q j (RelInv ops C Fs a0 (listed.setIfInBounds j true)) a w := by
  obtain ⟨_, o, ho, _⟩ := mem_ready.1 hj
  have h := relStep1 (Q := Q) hs hm hC hi ho (hob j o ho) hj hsz
  unfold wpOp
  simp only [ho]
  split
  · rename_i hw
    rw [if_pos hw] at h
    exact .inl h
  · rename_i hw
    rw [if_neg hw] at h
    exact h

theorem relAny (hs : RelSpec ops us cl all) (hm : ∀ (j : Nat) (v : Value) (w w' : World), le w w' → phi Fs j v w → phi Fs j v w') (hC : ∀ w w', C w → le w w' → C w')
    (hob : ∀ (j : Nat) (o : Oper), ops[j]? = some o → Ob P ops le C Fs a0 o (us.getD j []) (phi Fs j)) {Q : Exit → Act → World → Prop}
    (hfin : ∀ (u : Nat → Value) (w' : World), C w' → facts Fs u w' all → Q .normal (puts u all a0) w') :
    ∀ (fuel : Nat) (listed : Array Bool) (a : Act) (w : World), listed.size = ops.size → (List.range ops.size).countP (fun k => !listed.getD k true) ≤ fuel → RelInv ops C Fs a0 listed a w → wpAny P .any ops Q fuel listed a w := by
  -- when nothing may come up all have come up
  have done : ∀ (listed : Array Bool) (a : Act) (w : World), listed.size = ops.size → RelInv ops C Fs a0 listed a w → (∀ k, k < ops.size → listed.getD k false = true) → Q .normal a w := by
    intro listed a w hsz hi hl
    have e : a = puts (fun k => slotVal (dstAt ops k) a) all a0 := by
      have ht : a.tmps = (puts (fun k => slotVal (dstAt ops k) a) all a0).tmps := by
        apply Array.ext_getElem?
        intro t
        rcases Nat.lt_or_ge t a0.tmps.size with hlt | hge
        · by_cases hex : ∃ p ∈ all, p.2 = some t
          · rw [puts_some _ _ _ hlt hex (v := a.tmps.getD t undef)]
            · have : t < a.tmps.size := by rw [hi.tsize]; exact hlt
              simp [this]
            · intro p hp e
              rw [← hs.all_] at hp
              obtain ⟨k, _, rfl⟩ := List.mem_map.1 hp
              simp only at e
              simp [e, slotVal]
          · rw [puts_none _ _ _ fun p hp e => hex ⟨p, hp, e⟩]
            refine hi.same t fun k hk hd => absurd ⟨(k, dstAt ops k), ?_, hd⟩ hex
            rw [← hs.all_]
            exact List.mem_map.2 ⟨k, List.mem_range.2 hk, rfl⟩
        · rw [Array.getElem?_eq_none (by rw [hi.tsize]; exact hge), Array.getElem?_eq_none (by rw [puts_tsize]; exact hge)]
      have hd : a.defers = (puts (fun k => slotVal (dstAt ops k) a) all a0).defers := by rw [puts_defers]; exact hi.defers
      cases a
      simp only at ht hd
      rw [show puts (fun k => slotVal (dstAt ops k) _) all a0 = ⟨_, _⟩ from rfl, ← ht, ← hd]
    rw [e]
    refine hfin _ w hi.cls ?_
    have H : ∀ (m : List (Nat × Option Tmp)), (∀ p ∈ m, p.1 < ops.size) → facts Fs (fun k => slotVal (dstAt ops k) a) w m := by
      intro m
      induction m with
      | nil => intro _; trivial
      | cons p r ih => intro h; exact ⟨hi.fact p.1 (h p (List.mem_cons_self ..)) (hl p.1 (h p (List.mem_cons_self ..))), ih fun q hq => h q (List.mem_cons_of_mem _ hq)⟩
    refine H _ fun p hp => ?_
    rw [← hs.all_] at hp
    obtain ⟨k, hk, rfl⟩ := List.mem_map.1 hp
    exact List.mem_range.1 hk
  have stuck : ∀ (listed : Array Bool), listed.size = ops.size → Region.ready .any ops listed = [] → ∀ k, k < ops.size → listed.getD k false = true := by
    intro listed hsz hr k
    induction k using Nat.strongRecOn with
    | ind k ih =>
      intro hk
      cases hl : listed.getD k false
      · have : k ∈ Region.ready .any ops listed := by
          rw [mem_ready]
          refine ⟨?_, ops[k], Array.getElem?_eq_getElem _, fun e he hb => ?_⟩
          · have hk' : k < listed.size := by omega
            simp [hk'] at hl ⊢
            exact hl
          · have := hs.elder k ops[k] (Array.getElem?_eq_getElem _) e he hb
            exact ih e.on this (by omega)
        rw [hr] at this
        cases this
      · rfl
  intro fuel
  induction fuel with
  | zero =>
    intro listed a w hsz hcnt hi
    have hl : ∀ k, k < ops.size → listed.getD k false = true := by
      intro k hk
      have h0 : (List.range ops.size).countP (fun k => !listed.getD k true) = 0 := by omega
      rw [List.countP_eq_zero] at h0
      have h1 := h0 k (List.mem_range.2 hk)
      have hk' : k < listed.size := by omega
      simp [hk'] at h1 ⊢
      exact h1
    refine ⟨?_, done listed a w hsz hi hl⟩
    cases hr : Region.ready .any ops listed with
    | nil => rfl
    | cons k r =>
      have hk : k ∈ Region.ready .any ops listed := by rw [hr]; exact List.mem_cons_self ..
      obtain ⟨h1, o, ho, _⟩ := mem_ready.1 hk
      have := hl k (Array.getElem?_eq_some_iff.1 ho).1
      rw [getD_false_of_true h1] at this
      cases this
  | succ fuel ih =>
    intro listed a w hsz hcnt hi
    refine ⟨fun h0 => done listed a w hsz hi (stuck listed hsz h0), fun j hj => ?_⟩
    refine wpOp_mono (fun a' w' h' => ih _ a' w' (by simpa using hsz) ?_ h') (relStep hs hm hC hob hi hj hsz)
    obtain ⟨h1, o, ho, _⟩ := mem_ready.1 hj
    have hjs : j < ops.size := (Array.getElem?_eq_some_iff.1 ho).1
    have hlt : (List.range ops.size).countP (fun k => !(listed.setIfInBounds j true).getD k true) < (List.range ops.size).countP (fun k => !listed.getD k true) := by
      obtain ⟨n, hn⟩ : ∃ n, ops.size = j + 1 + n := ⟨ops.size - (j + 1), by omega⟩
      have hsplit : List.range ops.size = List.range j ++ j :: (List.range n).map (fun x => j + 1 + x) := by
        rw [hn, List.range_add, List.range_succ]
        simp
      rw [hsplit, List.countP_append, List.countP_append, List.countP_cons, List.countP_cons]
      have hmono : ∀ (l : List Nat), l.countP (fun k => !(listed.setIfInBounds j true).getD k true) ≤ l.countP (fun k => !listed.getD k true) := fun l =>
        List.countP_mono_left fun k _ hk => by
          by_cases hjk : j = k
          · subst hjk
            have : j < listed.size := by omega
            simp [this] at hk
          · rwa [getD_set_ne true hjk] at hk
      have e1 : (!listed.getD j true) = true := by rw [h1]; rfl
      have e2 : (!(listed.setIfInBounds j true).getD j true) = false := by
        have : j < listed.size := by omega
        simp [this]
      have m1 := hmono (List.range j)
      have m2 := hmono ((List.range n).map (fun x => j + 1 + x))
      rw [e1, e2, if_pos rfl, if_neg (by simp)]
      omega
    omega

/-- A drawn region, each operation by itself. -/
theorem wp_region_rel {id : Nat} {Q : Exit → Act → World → Prop} {a0 : Act} {w : World} {l : List Oper} (le : World → World → Prop) (C : World → Prop) (Fs : List (Value → World → Prop)) (us : List (List (Nat × Option Tmp))) (cl : List (List Nat)) (all : List (Nat × Option Tmp))
    (hm : P.follows .mixedOrders = true) (hB : relB l.toArray us cl all = true) (hC : ∀ w w', C w → le w w' → C w') (h0 : C w.drew) (hmono : AllMono le Fs) (hob : AllOb P l.toArray le C Fs a0 l us Fs)
    (hfin : ∀ (u : Nat → Value) (w' : World), C w' → facts Fs u w' all → ∀ a, a = puts u all a0 → Q .normal a w') : (Code.region id l.toArray true).wp P Q a0 w := by
  refine wp_region_any hm ?_
  refine relAny (le := le) (C := C) (Fs := Fs) (relB_spec hB) hmono.get hC (fun j o ho => hob.get j o (by simpa using ho)) (fun u w' h1 h2 => hfin u w' h1 h2 _ rfl) _ _ _ _ (by simp) ?_ ⟨?_, h0, rfl, rfl, fun _ _ => rfl, ?_⟩
  · refine Nat.le_trans (List.countP_le_length) (by simp)
  · intro i o ho hl
    simp only [Array.getD_eq_getD_getElem?, Array.getElem?_replicate] at hl
    split at hl <;> simp at hl
  · intro k hk hl
    simp only [Array.getD_eq_getD_getElem?, Array.getElem?_replicate] at hl
    split at hl <;> simp at hl
end

/-! ### What may be known of a value -/
/-- Just this value. -/
def Det (c : Value) : Value → World → Prop := fun v _ => v = c
theorem Det.later {c : Value} (v : Value) (w w' : World) (hb : Below w.heap.size w w') (h : Det c v w) : Det c v w' := h
def Any : Value → World → Prop := fun _ _ => True
theorem Any.later (v : Value) (w w' : World) (hb : Below w.heap.size w w') (h : Any v w) : Any v w' := h
end Go.Proofs.Ytkiiobfomnggcaa
end

/-
  What may be known of a value of a drawn region: slices of bytes, rows of slices.
-/
section
namespace Go.Proofs.Ytkiiobfomnggcaa
open Go.RowKit
set_option linter.unusedVariables false

/-- A slice that reads as these bytes. -/
def RelB (n : Nat) (bs : List UInt8) : Value → World → Prop := fun v w => ∃ A c, v = .slice A n c ∧ SlB w w.heap.size A n c bs
theorem RelB.later {n : Nat} {bs : List UInt8} (v : Value) (w w' : World) (hb : Below w.heap.size w w') (h : RelB n bs v w) : RelB n bs v w' :=
  let ⟨A, c, e, hs⟩ := h
  ⟨A, c, e, (hs.below hb).more hb.size⟩
/-- A slice of the call's own that holds these bytes. -/
def RelO (base n : Nat) (bs : List UInt8) : Value → World → Prop := fun v w => ∃ A c, v = .slice A n c ∧ OwB w base A n c bs
theorem RelO.later {base n : Nat} {bs : List UInt8} (v : Value) (w w' : World) (hb : Below w.heap.size w w') (h : RelO base n bs v w) : RelO base n bs v w' :=
  let ⟨A, c, e, hs⟩ := h
  ⟨A, c, e, hs.below hb⟩
/-- An empty row without room. -/
def RelE : Value → World → Prop := fun v _ => ∃ A, v = .slice A 0 0
theorem RelE.later (v : Value) (w w' : World) (hb : Below w.heap.size w w') (h : RelE v w) : RelE v w' := h
/-- A row of slices that read as these rows. -/
def RelP (n : Nat) (bss : List (List UInt8)) : Value → World → Prop := fun v w => ∃ A c, v = .slice A n c ∧ ∃ ls : List (Option Addr × Nat × Nat), ls.length = bss.length ∧ Sl w w.heap.size 1 A n c (ls.map fun l => .slice l.1 l.2.1 l.2.2) ∧
  ∀ (i : Nat) (l : Option Addr × Nat × Nat) (bs : List UInt8), ls[i]? = some l → bss[i]? = some bs → SlB w w.heap.size l.1 l.2.1 l.2.2 bs
theorem RelP.later {n : Nat} {bss : List (List UInt8)} (v : Value) (w w' : World) (hb : Below w.heap.size w w') (h : RelP n bss v w) : RelP n bss v w' :=
  let ⟨A, c, e, ls, h1, h2, h3⟩ := h
  ⟨A, c, e, ls, h1, (Sl.below h2 hb).more hb.size, fun i l bs a b => ((h3 i l bs a b).below hb).more hb.size⟩
/-- Rows of one's own that share no memory are told apart elsewhere; here one row of one slice. -/
theorem RelP.one {w : World} {A : Option Addr} {n c : Nat} {bs : List UInt8} (h : SlB w w.heap.size A n c bs) : RelP 1 [bs] (.slice (some ⟨w.heap.size, 0, none⟩) 1 1) (w.alloc (.cells #[.slice A n c] 22)) :=
  ⟨_, _, rfl, [(A, n, c)], rfl, ⟨rfl, Nat.le_refl _, by simp [maxLen], fun _ => ⟨w.heap.size, 0, rfl, by simp, fun j u hu => by
    rw [(Blk.new w 22 #[.slice A n c]).cell, Nat.zero_add]
    simpa using hu⟩⟩, fun i l b h1 h2 => by
    match i, h1, h2 with
    | 0, h1, h2 =>
      simp only [List.getElem?_cons_zero, Option.some.injEq] at h1 h2
      subst h1; subst h2
      exact (h.alloc (Nat.le_refl _) _).more (by simp)
    | i + 1, h1, _ => simp at h1⟩
theorem RelP.two {w : World} {A A' : Option Addr} {n c n' c' : Nat} {bs bs' : List UInt8} (h : SlB w w.heap.size A n c bs) (h' : SlB w w.heap.size A' n' c' bs') : RelP 2 [bs, bs'] (.slice (some ⟨w.heap.size, 0, none⟩) 2 2) (w.alloc (.cells #[.slice A n c, .slice A' n' c'] 22)) :=
  ⟨_, _, rfl, [(A, n, c), (A', n', c')], rfl, ⟨rfl, Nat.le_refl _, by simp [maxLen], fun _ => ⟨w.heap.size, 0, rfl, by simp, fun j u hu => by
    rw [(Blk.new w 22 #[.slice A n c, .slice A' n' c']).cell, Nat.zero_add]
    simpa using hu⟩⟩, fun i l b h1 h2 => by
    match i, h1, h2 with
    | 0, h1, h2 =>
      simp only [List.getElem?_cons_zero, Option.some.injEq] at h1 h2
      subst h1; subst h2
      exact (h.alloc (Nat.le_refl _) _).more (by simp)
    | 1, h1, h2 =>
      simp only [List.getElem?_cons_succ, List.getElem?_cons_zero, Option.some.injEq] at h1 h2
      subst h1; subst h2
      exact (h'.alloc (Nat.le_refl _) _).more (by simp)
    | i + 2, h1, _ => simp at h1⟩
theorem RelP.three {w : World} {A A' A'' : Option Addr} {n c n' c' n'' c'' : Nat} {bs bs' bs'' : List UInt8} (h : SlB w w.heap.size A n c bs) (h' : SlB w w.heap.size A' n' c' bs') (h'' : SlB w w.heap.size A'' n'' c'' bs'') :
    RelP 3 [bs, bs', bs''] (.slice (some ⟨w.heap.size, 0, none⟩) 3 3) (w.alloc (.cells #[.slice A n c, .slice A' n' c', .slice A'' n'' c''] 22)) :=
  ⟨_, _, rfl, [(A, n, c), (A', n', c'), (A'', n'', c'')], rfl, ⟨rfl, Nat.le_refl _, by simp [maxLen], fun _ => ⟨w.heap.size, 0, rfl, by simp, fun j u hu => by
    rw [(Blk.new w 22 #[.slice A n c, .slice A' n' c', .slice A'' n'' c'']).cell, Nat.zero_add]
    simpa using hu⟩⟩, fun i l b h1 h2 => by
    match i, h1, h2 with
    | 0, h1, h2 =>
      simp only [List.getElem?_cons_zero, Option.some.injEq] at h1 h2
      subst h1; subst h2
      exact (h.alloc (Nat.le_refl _) _).more (by simp)
    | 1, h1, h2 =>
      simp only [List.getElem?_cons_succ, List.getElem?_cons_zero, Option.some.injEq] at h1 h2
      subst h1; subst h2
      exact (h'.alloc (Nat.le_refl _) _).more (by simp)
    | 2, h1, h2 =>
      simp only [List.getElem?_cons_succ, List.getElem?_cons_zero, Option.some.injEq] at h1 h2
      subst h1; subst h2
      exact (h''.alloc (Nat.le_refl _) _).more (by simp)
    | i + 3, h1, _ => simp at h1⟩
/-- The bytes of a slice that is just built. -/
theorem RelB.new {w : World} (cur : Array Value) (bs : List UInt8) (m : Nat) (hm : bs.length = m) (hx : m ≤ maxLen) (hc : cur.toList = bs.map b8) : RelB m bs (.slice (some ⟨w.heap.size, 0, none⟩) m m) (w.alloc (.cells cur 5)) :=
  ⟨_, _, rfl, (SlB.new w cur bs m (Nat.lt_succ_self _) hm hx hc).more (by simp)⟩
theorem below_alloc (w : World) (o : Obj) : Below w.heap.size w (w.alloc o) := (Below.refl _ _).alloc (Nat.le_refl _) _
end Go.Proofs.Ytkiiobfomnggcaa
end

/-
  Drawn regions that lay marks on constant rows: what is known of a value stands behind a mark.
-/
section
namespace Go.Proofs.Ytkiiobfomnggcaa
open Go.RowKit
set_option linter.unusedVariables false

/-- What lay below 'base' lies; of what was made behind, marks alone have changed. -/
def LeM (base : Nat) (w w' : World) : Prop :=
  Below base w w' ∧ w.heap.size ≤ w'.heap.size ∧ ∀ g, g < w.heap.size → w'.heap[g]? = w.heap[g]? ∨ ∃ cs t m m', w.heap[g]? = some (.cells cs t m) ∧ w'.heap[g]? = some (.cells cs t m')
theorem LeM.refl (base : Nat) (w : World) : LeM base w w := ⟨Below.refl _ _, Nat.le_refl _, fun _ _ => .inl rfl⟩
theorem LeM.of_below {base : Nat} {w w' : World} (h : base ≤ w.heap.size) (hb : Below w.heap.size w w') : LeM base w w' := ⟨hb.mono h, hb.size, fun g hg => .inl (hb.block g hg)⟩
theorem LeM.cell {base : Nat} {w w' : World} (h : LeM base w w') {p : Addr} (hp : p.block < w.heap.size) : w'.cell? p = w.cell? p := by
  rcases h.2.2 p.block hp with e | ⟨cs, t, m, m', e, e'⟩
  · simp only [World.cell?, e]
  · simp only [World.cell?, e, e']
theorem LeM.freeze {base : Nat} {w : World} {g k : Nat} {cs : Array Value} {t : TypeId} {m : Nat × Nat} (hg : base ≤ g) (hb : w.heap[g]? = some (.cells cs t m)) : LeM base w (w.freeze ⟨g, k, none⟩ 1) ∧ ∃ m', (w.freeze ⟨g, k, none⟩ 1).heap[g]? = some (.cells cs t m') := by
  have he : ∀ j, (w.freeze ⟨g, k, none⟩ 1).heap[j]? = if g = j then some (.cells cs t (if m.1 == m.2 then (k, k + 1) else (min m.1 k, max m.2 (k + 1)))) else w.heap[j]? := by
    intro j
    unfold World.freeze
    rw [if_neg (by decide)]
    simp only [Array.getElem?_modify]
    split
    · rename_i h
      subst h
      rw [hb]
      rfl
    · rfl
  refine ⟨⟨⟨rfl, rfl, rfl, ?_, fun j hj => ?_⟩, ?_, fun j hj => ?_⟩, _, by rw [he, if_pos rfl]⟩
  · simp [World.freeze]
  · rw [he, if_neg (by omega)]
  · simp [World.freeze]
  · rw [he]
    by_cases e : g = j
    · subst e
      rw [if_pos rfl]
      exact .inr ⟨cs, t, m, _, hb, rfl⟩
    · rw [if_neg e]
      exact .inl rfl

/-- A row of constant bytes of the region's own. -/
def RelK (base n : Nat) (bs : List UInt8) : Value → World → Prop := fun v w => ∃ g m, v = .slice (some ⟨g, 0, none⟩) n n ∧ base ≤ g ∧ w.heap[g]? = some (.cells (bs.map b8).toArray 5 m) ∧ bs.length = n ∧ n ≤ maxLen
section
variable {base : Nat}
theorem Det.laterM {c : Value} (v : Value) (w w' : World) (hb : LeM base w w') (h : Det c v w) : Det c v w' := h
theorem Any.laterM (v : Value) (w w' : World) (hb : LeM base w w') (h : Any v w) : Any v w' := h
theorem RelB.laterM {n : Nat} {bs : List UInt8} (v : Value) (w w' : World) (hb : LeM base w w') (h : RelB n bs v w) : RelB n bs v w' :=
  let ⟨A, c, e, hs⟩ := h
  ⟨A, c, e, (hs.keep fun _ hp => hb.cell hp).more hb.2.1⟩
theorem RelP.laterM {n : Nat} {bss : List (List UInt8)} (v : Value) (w w' : World) (hb : LeM base w w') (h : RelP n bss v w) : RelP n bss v w' :=
  let ⟨A, c, e, ls, h1, h2, h3⟩ := h
  ⟨A, c, e, ls, h1, (Sl.keep h2 fun _ hp => hb.cell hp).more hb.2.1, fun i l bs a b => ((h3 i l bs a b).keep fun _ hp => hb.cell hp).more hb.2.1⟩
theorem RelK.laterM {b n : Nat} {bs : List UInt8} (v : Value) (w w' : World) (hb : LeM base w w') (h : RelK b n bs v w) : RelK b n bs v w' := by
  obtain ⟨g, m, e, h1, h2, h3, h4⟩ := h
  have hg : g < w.heap.size := by
    rcases Nat.lt_or_ge g w.heap.size with hlt | hge
    · exact hlt
    · rw [Array.getElem?_eq_none hge] at h2; cases h2
  rcases hb.2.2 g hg with e' | ⟨cs, t, m1, m', e1, e2⟩
  · exact ⟨g, m, e, h1, e'.trans h2, h3, h4⟩
  · rw [h2] at e1
    cases e1
    exact ⟨g, m', e, h1, e2, h3, h4⟩
end
theorem RelK.relB {base n : Nat} {bs : List UInt8} {v : Value} {w : World} (h : RelK base n bs v w) : RelB n bs v w := by
  obtain ⟨g, m, e, h1, h2, h3, h4⟩ := h
  have hg : g < w.heap.size := by
    rcases Nat.lt_or_ge g w.heap.size with hlt | hge
    · exact hlt
    · rw [Array.getElem?_eq_none hge] at h2; cases h2
  refine ⟨_, _, e, by simpa using h3, Nat.le_refl _, h4, fun _ => ⟨g, 0, rfl, hg, fun j u hu => ?_⟩⟩
  simp only [World.cell?, h2, Nat.zero_add]
  simpa using hu
theorem RelK.new {w : World} (base : Nat) (bs : List UInt8) (n : Nat) (hb : base ≤ w.heap.size) (hn : bs.length = n) (hx : n ≤ maxLen) (cur : Array Value) (hc : cur = (bs.map b8).toArray) : RelK base n bs (.slice (some ⟨w.heap.size, 0, none⟩) n n) (w.alloc (.cells cur 5)) := by
  subst hc
  exact ⟨w.heap.size, (0, 0), rfl, hb, Blk.new w _ _, hn, hx⟩
/-- '[]byte("..")' of a constant: the row gets its mark. -/
theorem run_mark {w : World} {g : Nat} {cs : Array Value} {t : TypeId} {m : Nat × Nat} (n c : Nat) (hb : w.heap[g]? = some (.cells cs t m)) :
    (convert 22 22 (.slice (some ⟨g, 0, none⟩) n c)).run Try.prog w = .ok (.slice (some ⟨g, 0, none⟩) n c) (w.freeze ⟨g, cs.size, none⟩ 1) := by
  have hsh : w.shape? g = some (t, cs.size) := by
    unfold World.shape?
    rw [hb]
  simp [convert, run_underlying Try.underlying22, run_underlying Try.underlying5, markStringish, hsh]
end Go.Proofs.Ytkiiobfomnggcaa
end

/-
  A region that draws its order inside a fence: its head each operation by itself, then its tail in the one order that is left.
-/
section
namespace Go.Proofs.Ytkiiobfomnggcaa
open Go.RowKit
set_option linter.unusedVariables false

/-- The closed facts on head and tail: the tail's operations wait for the whole head, and come one behind the other. -/
def relTailB (ops : Array Oper) (cl : List (List Nat)) (k : Nat) : Bool :=
  decide (k ≤ ops.size) && ((List.range ops.size).all fun j => decide (j < k) || (List.range k).all fun i => (cl.getD j []).contains i) &&
  Region.seqB .any ops (ops.size - k) k (Array.replicate k true ++ Array.replicate (ops.size - k) false)

section
variable {F : Fence} {n : Nat} {P : Program} {ops : Array Oper} {le : World → World → Prop} {C : World → Prop} {Fs : List (Value → World → Prop)} {us : List (List (Nat × Option Tmp))} {cl : List (List Nat)} {all : List (Nat × Option Tmp)} {a0 : Act}

theorem wpOpIn_of_step (hF : Free F) (hnd : noDefer ops.toList = true) {j : Nat} {o : Oper} (ho : ops[j]? = some o) {a : Act} {w : World} {K K' : Act → World → Prop} {Q : Exit → Act → World → Prop} (hK : ∀ a w, K a w → K' a w)
    (h : if Region.wanted o (yielded ops a.tmps) then o.wp P a w K Q else K (a.put o.dst undef) w) : wpOpIn F n P ops Q j K' a w := by
  unfold wpOpIn
  simp only [ho]
  have hod : ∀ c, o.op ≠ .defer c := noDefer_op (List.all_eq_true.1 hnd o (by
    have := Array.mem_of_getElem? ho
    simpa using this))
  split
  · rename_i hw
    rw [if_pos hw] at h
    exact wpIn_of_wp hF hod hK h
  · rename_i hw
    rw [if_neg hw] at h
    exact ⟨fun f _ => hF.fn f, hK _ _ h⟩

theorem relAnyIn (hF : Free F) (hnd : noDefer ops.toList = true) (hs : RelSpec ops us cl all) (hm : ∀ (j : Nat) (v : Value) (w w' : World), le w w' → phi Fs j v w → phi Fs j v w') (hC : ∀ w w', C w → le w w' → C w') {k : Nat} (hk : relTailB ops cl k = true)
    (hob : ∀ (j : Nat) (o : Oper), j < k → ops[j]? = some o → Ob P ops le C Fs a0 o (us.getD j []) (phi Fs j)) {Q : Exit → Act → World → Prop}
    (hfin : ∀ (u : Nat → Value) (w' : World), C w' → facts Fs u w' (all.take k) → wpListIn F n P ops Q (ops.toList.drop k) (puts u (all.take k) a0) w') :
    ∀ (fuel : Nat) (listed : Array Bool) (a : Act) (w : World), listed.size = ops.size → (∀ j, k ≤ j → listed.getD j false = false) → (List.range k).countP (fun j => !listed.getD j true) = fuel → RelInv ops C Fs a0 listed a w →
      wpAnyIn F n P .any ops Q (fuel + (ops.size - k)) listed a w := by
  simp only [relTailB, Bool.and_eq_true, decide_eq_true_eq, List.all_eq_true, List.mem_range, Bool.or_eq_true, List.contains_iff_mem] at hk
  obtain ⟨⟨hkn, htail⟩, hseq⟩ := hk
  have done : ∀ (listed : Array Bool) (a : Act) (w : World), listed.size = ops.size → (∀ j, k ≤ j → listed.getD j false = false) → RelInv ops C Fs a0 listed a w → (∀ j, j < k → listed.getD j false = true) → wpListIn F n P ops Q (ops.toList.drop k) a w := by
    intro listed a w hsz hun hi hl
    have hall : all.take k = (List.range k).map fun j => (j, dstAt ops j) := by
      rw [← hs.all_, ← List.map_take, List.take_range, Nat.min_eq_left hkn]
    have e : a = puts (fun j => slotVal (dstAt ops j) a) (all.take k) a0 := by
      have ht : a.tmps = (puts (fun j => slotVal (dstAt ops j) a) (all.take k) a0).tmps := by
        apply Array.ext_getElem?
        intro t
        rcases Nat.lt_or_ge t a0.tmps.size with hlt | hge
        · by_cases hex : ∃ p ∈ all.take k, p.2 = some t
          · rw [puts_some _ _ _ hlt hex (v := a.tmps.getD t undef)]
            · have : t < a.tmps.size := by rw [hi.tsize]; exact hlt
              simp [this]
            · intro p hp e
              rw [hall] at hp
              obtain ⟨j, _, rfl⟩ := List.mem_map.1 hp
              simp only at e
              simp [e, slotVal]
          · rw [puts_none _ _ _ fun p hp e => hex ⟨p, hp, e⟩]
            refine hi.same t fun j hj hd => ?_
            rcases Nat.lt_or_ge j k with h | h
            · exact absurd ⟨(j, dstAt ops j), by rw [hall]; exact List.mem_map.2 ⟨j, List.mem_range.2 h, rfl⟩, hd⟩ hex
            · exact hun j h
        · rw [Array.getElem?_eq_none (by rw [hi.tsize]; exact hge), Array.getElem?_eq_none (by rw [puts_tsize]; exact hge)]
      have hd : a.defers = (puts (fun j => slotVal (dstAt ops j) a) (all.take k) a0).defers := by rw [puts_defers]; exact hi.defers
      cases a
      simp only at ht hd
      rw [show puts (fun j => slotVal (dstAt ops j) _) (all.take k) a0 = ⟨_, _⟩ from rfl, ← ht, ← hd]
    rw [e]
    refine hfin _ w hi.cls ?_
    have H : ∀ (m : List (Nat × Option Tmp)), (∀ p ∈ m, p.1 < k ∧ dstAt ops p.1 = p.2) → facts Fs (fun j => slotVal (dstAt ops j) a) w m := by
      intro m
      induction m with
      | nil => intro _; trivial
      | cons p r ih => intro h; exact ⟨hi.fact p.1 (by have := (h p (List.mem_cons_self ..)).1; omega) (hl p.1 (h p (List.mem_cons_self ..)).1), ih fun q hq => h q (List.mem_cons_of_mem _ hq)⟩
    refine H _ fun p hp => ?_
    rw [hall] at hp
    obtain ⟨j, hj, rfl⟩ := List.mem_map.1 hp
    exact ⟨List.mem_range.1 hj, rfl⟩
  -- what may come up ahead of the tail is of the head
  have heads : ∀ (listed : Array Bool) (a : Act) (w : World), RelInv ops C Fs a0 listed a w → ∀ j ∈ Region.ready .any ops listed, j < k ∨ ∀ i, i < k → listed.getD i false = true := by
    intro listed a w hi j hj
    obtain ⟨_, o, ho, hall⟩ := mem_ready.1 hj
    rcases htail j (Array.getElem?_eq_some_iff.1 ho).1 with h | h
    · exact .inl h
    · exact .inr fun i hik => hs.listed hi.closed j j o (Nat.le_refl _) ho hall i (h i hik)
  intro fuel
  induction fuel with
  | zero =>
    intro listed a w hsz hun hcnt hi
    have hl : ∀ j, j < k → listed.getD j false = true := by
      intro j hj
      rw [List.countP_eq_zero] at hcnt
      have h1 := hcnt j (List.mem_range.2 hj)
      have hj' : j < listed.size := by omega
      simp [hj'] at h1 ⊢
      exact h1
    have el : listed = Array.replicate k true ++ Array.replicate (ops.size - k) false := by
      apply Array.ext
      · simp [hsz]; omega
      · intro j h1 h2
        rcases Nat.lt_or_ge j k with h | h
        · rw [Array.getElem_append_left (by simpa using h), Array.getElem_replicate]
          have := hl j h
          simpa [h1] using this
        · rw [Array.getElem_append_right (by simpa using h), Array.getElem_replicate]
          have := hun j h
          simpa [h1] using this
    have h := done listed a w hsz hun hi hl
    rw [Nat.zero_add, el]
    have := wpAnyIn_of_seq (F := F) (n := n) (md := .any) (Q' := Q) (ops.toList.drop k) k (Array.replicate k true ++ Array.replicate (ops.size - k) false) a w (fun j => by simp [List.getElem?_drop]) (by simpa using hseq) h
    simpa using this
  | succ fuel ih =>
    intro listed a w hsz hun hcnt hi
    rw [show fuel + 1 + (ops.size - k) = (fuel + (ops.size - k)) + 1 by omega]
    -- one of the head has not come up: something of the head may
    have hex : ¬ ∀ i, i < k → listed.getD i false = true := fun h => by
      have : (List.range k).countP (fun j => !listed.getD j true) = 0 := by
        rw [List.countP_eq_zero]
        intro j hj
        have hj := List.mem_range.1 hj
        have h1 := h j hj
        have hj' : j < listed.size := by omega
        simp [hj'] at h1 ⊢
        exact h1
      omega
    refine ⟨fun h0 => ?_, fun j hj => ?_⟩
    · exfalso
      apply hex
      intro j
      induction j using Nat.strongRecOn with
      | ind j ih2 =>
        intro hjk
        cases hl : listed.getD j false
        · have hjs : j < ops.size := by omega
          have : j ∈ Region.ready .any ops listed := by
            rw [mem_ready]
            refine ⟨?_, ops[j], Array.getElem?_eq_getElem _, fun e he hb => ?_⟩
            · have hj' : j < listed.size := by omega
              simp [hj'] at hl ⊢
              exact hl
            · have := hs.elder j ops[j] (Array.getElem?_eq_getElem _) e he hb
              exact ih2 e.on this (by omega)
          rw [h0] at this
          cases this
        · rfl
    · have hjk : j < k := (heads listed a w hi j hj).resolve_right hex
      obtain ⟨h1, o, ho, _⟩ := mem_ready.1 hj
      have hjs : j < ops.size := by omega
      refine wpOpIn_of_step hF hnd ho (fun a' w' h' => ih _ a' w' (by simpa using hsz) ?_ ?_ h') (relStep1 hs hm hC hi ho (hob j o hjk ho) hj hsz)
      · intro i hik
        rw [getD_set_ne false (by omega)]
        exact hun i hik
      · have hsplit : List.range k = List.range j ++ j :: (List.range (k - (j + 1))).map (fun x => j + 1 + x) := by
          obtain ⟨m, hm'⟩ : ∃ m, k = j + 1 + m := ⟨k - (j + 1), by omega⟩
          rw [hm', List.range_add, List.range_succ]
          simp
        rw [hsplit, List.countP_append, List.countP_cons] at hcnt ⊢
        have hsame : ∀ (l : List Nat), j ∉ l → l.countP (fun i => !(listed.setIfInBounds j true).getD i true) = l.countP (fun i => !listed.getD i true) := fun l hl => by
          refine List.countP_congr fun i hi' => ?_
          have hne : j ≠ i := fun e => hl (by rw [e]; exact hi')
          rw [getD_set_ne true hne]
        have m1 := hsame (List.range j) (by simp)
        have m2 := hsame ((List.range (k - (j + 1))).map (fun x => j + 1 + x)) (by simp; omega)
        have e1 : (!listed.getD j true) = true := by rw [h1]; rfl
        have e2 : (!(listed.setIfInBounds j true).getD j true) = false := by
          have : j < listed.size := by omega
          simp [this]
        rw [e1, if_pos rfl] at hcnt
        rw [m1, m2, e2, if_neg (by simp)]
        omega

theorem wpIn_region_rel {id : Nat} {Q : Exit → Act → World → Prop} {w : World} {l : List Oper} (hF : Free F) (hnd : noDefer l = true) (k : Nat) (le : World → World → Prop) (C : World → Prop) (Fs : List (Value → World → Prop)) (us : List (List (Nat × Option Tmp))) (cl : List (List Nat)) (all : List (Nat × Option Tmp))
    (hm : P.follows .mixedOrders = true) (hB : relB l.toArray us cl all = true) (hT : relTailB l.toArray cl k = true) (hC : ∀ w w', C w → le w w' → C w') (h0 : C w.drew) (hmono : AllMono le Fs) (hob : AllOb P l.toArray le C Fs a0 (l.take k) (us.take k) (Fs.take k))
    (hfin : ∀ (u : Nat → Value) (w' : World), C w' → facts Fs u w' (all.take k) → ∀ a, a = puts u (all.take k) a0 → wpListIn F n P l.toArray Q (l.drop k) a w') : (Code.region id l.toArray true).wpIn F n P Q a0 w := by
  refine wpIn_region_any hm ?_
  have hkn : k ≤ l.toArray.size := by
    simp only [relTailB, Bool.and_eq_true, decide_eq_true_eq] at hT
    exact hT.1.1
  have hkl : k ≤ l.length := by simpa using hkn
  have hlen : ∀ {x : List Oper} {y : List (List (Nat × Option Tmp))} {z : List (Value → World → Prop)}, AllOb P l.toArray le C Fs a0 x y z → x.length = y.length ∧ x.length = z.length := by
    intro x y z h
    induction h with
    | nil => exact ⟨rfl, rfl⟩
    | cons _ _ ih => exact ⟨by simp [ih.1], by simp [ih.2]⟩
  have hl3 := hlen hob
  rw [List.length_take, Nat.min_eq_left hkl, List.length_take, List.length_take] at hl3
  have := relAnyIn (F := F) (n := n) (Q := Q) hF (by simpa using hnd) (relB_spec hB) hmono.get hC hT (fun j o hjk ho => by
    have h := hob.get j o (by rw [List.getElem?_take, if_pos hjk]; simpa using ho)
    have e1 : (us.take k).getD j [] = us.getD j [] := by
      simp only [List.getD_eq_getElem?_getD, List.getElem?_take, if_pos hjk]
    have e2 : (((Fs.take k)[j]?).getD fun _ _ => True) = phi Fs j := by
      simp only [phi, List.getElem?_take, if_pos hjk]
    rw [e1, e2] at h
    exact h) (fun u w' h1 h2 => by simpa using hfin u w' h1 h2 _ rfl) k (Array.replicate l.toArray.size false) a0 w.drew (by simp) (fun j _ => by
      simp only [Array.getD_eq_getD_getElem?, Array.getElem?_replicate]
      split <;> rfl) ?_ ⟨?_, h0, rfl, rfl, fun _ _ => rfl, ?_⟩
  · rwa [show k + (l.toArray.size - k) = l.toArray.size by omega] at this
  · rw [List.countP_eq_length.2, List.length_range]
    intro j hj
    have hj := List.mem_range.1 hj
    have : j < l.toArray.size := by omega
    simp only [Array.getD_eq_getD_getElem?, Array.getElem?_replicate, if_pos this]
    rfl
  · intro i o ho hl
    simp only [Array.getD_eq_getD_getElem?, Array.getElem?_replicate] at hl
    split at hl <;> simp at hl
  · intro k hk hl
    simp only [Array.getD_eq_getD_getElem?, Array.getElem?_replicate] at hl
    split at hl <;> simp at hl
end
end Go.Proofs.Ytkiiobfomnggcaa
end

/-
  How an argument is opened: slices of integers and of bytes, with the bound of the form's own reach.
-/
section
namespace Go.Proofs.Ytkiiobfomnggcaa
open Go.ChangeShapes Go.WideShapes Go.ChangeAt Go.RowKit
open Go.ChangeMaps (open_string shut_string)
set_option maxRecDepth 100000

theorem laidOut : laidOutB Try.prog = true := by kernel_rfl
theorem own : ownKnob Try.prog.godebug = none := by kernel_rfl

/-- The arguments lie within the form's own reach. -/
def InReach {H : Type} (P : Program) (ts : List TypeId) (ds : List (DataW H)) : Prop := (DataW.weightsEach P ts ds).all (· ≤ reachBytes) = true

theorem open_ints' {H : Type} {enc : TypeId × Value → H} {P : Program} {W : World} {t e : TypeId} {k : IntKind} {r : Reach} {b0 : Nat} (ht : P.underlying t = some (.slice e)) (he : P.underlying e = some (.int k)) (hc : P.cellsOf e = 1) {b : Nat} (hby : P.bytesOf e = b)
    {v : Value} {d : DataW H} {p : List MemPlace} (hok : Value.okWide P W r b0 t v) (h : DataW.Trod enc P W 0 (fun _ => true) true t v d p) :
    ∃ (A : Option Addr) (n c : Nat) (zs : List Int), v = .slice A n c ∧ Sl W W.heap.size 1 A n c (zs.map (Value.int k)) ∧ (∀ z ∈ zs, (Lit.int k z).wf = true) ∧
      (∀ (ts : List TypeId) (ds : List (DataW H)) (j : Nat), InReach P ts ds → ts[j]? = some t → ds[j]? = some d → c * b ≤ 140737488351232) := by
  subst hby
  obtain ⟨A, n, c, rfl⟩ := okWide_slice ht hok
  obtain ⟨fuel, hf⟩ := h
  rcases open_ints ht he hc hf with ⟨hcs, hx⟩ | ⟨x, l, c', zs, hcs, _, hl, hm, hz, hx, hcell, hwz⟩
  · simp [Value.cells] at hcs
    obtain ⟨rfl, rfl, rfl⟩ := hcs
    exact ⟨none, 0, 0, [], rfl, Sl.nil _ _ _ _, by simp, fun _ _ _ _ _ _ => by omega⟩
  · simp [Value.cells] at hcs
    obtain ⟨rfl, rfl, rfl⟩ := hcs
    simp only [if_true] at hz
    simp only [Prod.mk.injEq] at hx
    refine ⟨some x, n, c, zs.take n, rfl, ⟨?_, hl, hm, fun hc0 => ?_⟩, fun z hz' => hwz z (List.mem_of_mem_take hz'), fun ts ds j hs htj hdj => ?_⟩
    · rw [List.length_map, List.length_take, hz]; omega
    · obtain ⟨b, off, spot⟩ := x
      have h0 := hcell 0 (by omega)
      have hspot : spot = none := by simpa [Addr.add] using World.cell?_spot h0
      subst hspot
      refine ⟨b, off, rfl, by simpa [Addr.add] using World.block_lt_of_cell? W _ h0, fun j u hu => ?_⟩
      rw [List.getElem?_map, List.getElem?_take] at hu
      split at hu
      · rename_i hj
        have h1 := hcell j (by omega)
        rw [Addr.add_lit] at h1
        rw [h1]
        rw [List.getElem?_eq_getElem (by omega)] at hu
        rw [← hu, List.getD_eq_getElem?_getD, List.getElem?_eq_getElem (by omega)]
        rfl
      · cases hu
    · rw [hx.1] at hdj
      have := sized_slice hs htj hdj ht
      have e : (lits (H := H) k (zs.take n)).length + (lits (H := H) k (zs.drop n)).length = c := by simp [lits, hz]; omega
      rw [e] at this
      simpa [reachBytes] using this

theorem bytes_of8 : Try.prog.bytesOf 5 = 1 := by kernel_rfl
theorem cells_of8 : Try.prog.cellsOf 5 = 1 := by kernel_rfl
theorem b8_of {z : Int} (h : (Lit.int .u8 z).wf = true) : b8 (UInt8.ofNat z.toNat) = .int .u8 z := by
  have := u8_bd h
  rw [b8, UInt8.toNat_ofNat']
  congr 1
  omega
theorem open_bytes {H : Type} {enc : TypeId × Value → H} {W : World} {r : Reach} {b0 : Nat} {v : Value} {d : DataW H} {p : List MemPlace} (hok : Value.okWide Try.prog W r b0 (22 : Nat) v)
    (h : DataW.Trod enc Try.prog W 0 (fun _ => true) true (22 : Nat) v d p) :
    ∃ (A : Option Addr) (n c : Nat) (bs : List UInt8), v = .slice A n c ∧ SlB W W.heap.size A n c bs ∧
      (∀ (ts : List TypeId) (ds : List (DataW H)) (j : Nat), InReach Try.prog ts ds → ts[j]? = some (22 : Nat) → ds[j]? = some d → c ≤ 140737488351232) := by
  obtain ⟨A, n, c, zs, rfl, h1, h2, h3⟩ := open_ints' Try.underlying22 Try.underlying5 cells_of8 bytes_of8 hok h
  simp only [Nat.mul_one] at h3
  refine ⟨A, n, c, zs.map fun z => UInt8.ofNat z.toNat, rfl, ?_, h3⟩
  have e : (zs.map fun z => UInt8.ofNat z.toNat).map b8 = zs.map (Value.int .u8) := by
    rw [List.map_map]
    exact List.map_congr_left fun z hz => b8_of (h2 z hz)
  rw [SlB, e]
  exact h1
theorem trod_lt {H : Type} {enc : TypeId × Value → H} {P : Program} {W : World} {t : TypeId} {v : Value} {d : DataW H} {p : List MemPlace} (h : DataW.Trod enc P W 0 (fun _ => true) true t v d p) : ∀ x ∈ p, x.block < W.heap.size := by
  obtain ⟨m, hm⟩ := h
  exact DataW.trod_lt m _ _ _ hm
end Go.Proofs.Ytkiiobfomnggcaa
end

/-
  How an argument is opened: arrays of integers.
-/
section
namespace Go.Proofs.Ytkiiobfomnggcaa
open Go.ChangeShapes Go.WideShapes Go.ChangeAt Go.RowKit
set_option maxRecDepth 100000

theorem open_arr_ints {H : Type} {enc : TypeId × Value → H} {P : Program} {W : World} {t e : TypeId} {k : IntKind} {N : Nat} {r : Reach} {b0 : Nat} (ht : P.underlying t = some (.array N e)) (he : P.underlying e = some (.int k)) (hce : P.cellsOf e = 1) (hct : P.cellsOf t = N)
    {v : Value} {d : DataW H} {p : List MemPlace} (hok : Value.okWide P W r b0 t v) (h : DataW.Trod enc P W 0 (fun _ => true) true t v d p) :
    ∃ zs : List Int, v = .agg (zs.map (Value.int k)).toArray ∧ zs.length = N ∧ (∀ z ∈ zs, (Lit.int k z).wf = true) := by
  simp only [Value.okWide, ht] at hok
  obtain ⟨cs, rfl, hsz, _⟩ := hok
  obtain ⟨fuel, hf⟩ := h
  obtain ⟨xs, m, _, _, hl, hlen, hi⟩ := DataW.trod_array ht hf
  rw [hct] at hsz
  have key : ∀ i, i < N → ∃ z : Int, cs[i]? = some (.int k z) ∧ (Lit.int k z).wf = true := fun i hi' => by
    have h1 := hi i hi'
    rw [hce, Nat.mul_one, List.getElem?_eq_getElem (by omega)] at h1
    obtain ⟨a, ea, _, wa⟩ := DataW.trod_int he h1
    refine ⟨a, ?_, wa⟩
    have h2 : ((Value.cells (.agg cs)).toList.drop i)[0]? = some (.int k a) := by
      have := congrArg (fun l : List Value => l[0]?) ea
      simpa using this
    simpa [Value.cells] using h2
  let f : Value → Int := fun v => match v with
    | .int _ z => z
    | _ => 0
  refine ⟨cs.toList.map f, ?_, by simpa using hsz, fun z hz => ?_⟩
  · congr 1
    apply Array.ext_getElem?
    intro i
    by_cases hiN : i < N
    · obtain ⟨z, hz, _⟩ := key i hiN
      simp [hz, f]
    · rw [Array.getElem?_eq_none (by omega), Array.getElem?_eq_none (by simp; omega)]
  · obtain ⟨v, hv, rfl⟩ := List.mem_map.1 hz
    obtain ⟨i, hi', e1⟩ := List.getElem_of_mem hv
    obtain ⟨z, hz', wz⟩ := key i (by simp at hi'; omega)
    have e2 : cs[i]? = some v := by rw [← e1]; simp
    rw [hz'] at e2
    simp only [Option.some.injEq] at e2
    subst e2
    exact wz
theorem ints_words {zs : List Int} (h : ∀ z ∈ zs, (Lit.int .u32 z).wf = true) : zs.map (Value.int .u32) = (zs.map fun z => UInt32.ofNat z.toNat).map b32 := by
  rw [List.map_map]
  refine List.map_congr_left fun z hz => ?_
  have := h z hz
  simp only [Lit.wf, IntKind.min, IntKind.max, IntKind.signed, IntKind.bits] at this
  simp at this
  simp only [Function.comp, b32, UInt32.toNat_ofNat']
  congr 1
  omega
theorem ints_bytes {zs : List Int} (h : ∀ z ∈ zs, (Lit.int .u8 z).wf = true) : zs.map (Value.int .u8) = (zs.map fun z => UInt8.ofNat z.toNat).map b8 := by
  rw [List.map_map]
  exact List.map_congr_left fun z hz => (b8_of (h z hz)).symm
theorem open_arr32 {H : Type} {enc : TypeId × Value → H} {P : Program} {W : World} {t e : TypeId} {N : Nat} {r : Reach} {b0 : Nat} (ht : P.underlying t = some (.array N e)) (he : P.underlying e = some (.int .u32)) (hce : P.cellsOf e = 1) (hct : P.cellsOf t = N)
    {v : Value} {d : DataW H} {p : List MemPlace} (hok : Value.okWide P W r b0 t v) (h : DataW.Trod enc P W 0 (fun _ => true) true t v d p) : ∃ ws : List UInt32, v = .agg (arr32 ws) ∧ ws.length = N := by
  obtain ⟨zs, rfl, hl, hw⟩ := open_arr_ints ht he hce hct hok h
  exact ⟨_, by rw [arr32, ints_words hw], by simpa using hl⟩
theorem open_arr8 {H : Type} {enc : TypeId × Value → H} {P : Program} {W : World} {t e : TypeId} {N : Nat} {r : Reach} {b0 : Nat} (ht : P.underlying t = some (.array N e)) (he : P.underlying e = some (.int .u8)) (hce : P.cellsOf e = 1) (hct : P.cellsOf t = N)
    {v : Value} {d : DataW H} {p : List MemPlace} (hok : Value.okWide P W r b0 t v) (h : DataW.Trod enc P W 0 (fun _ => true) true t v d p) : ∃ bs : List UInt8, v = .agg (arr8 bs) ∧ bs.length = N := by
  obtain ⟨zs, rfl, hl, hw⟩ := open_arr_ints ht he hce hct hok h
  exact ⟨_, by rw [arr8, ints_bytes hw], by simpa using hl⟩
end Go.Proofs.Ytkiiobfomnggcaa
end

/-
  How an argument of any shape is opened: numbers, truth values, strings, slices, structs, arrays, one in another.
-/
section
namespace Go.Proofs.Ytkiiobfomnggcaa
open Go.ChangeShapes Go.WideShapes Go.ChangeAt Go.RowKit Go.Deep
set_option linter.unusedVariables false
set_option maxRecDepth 100000

/-- The shape of a type's cells. -/
inductive Sh
  | int (k : IntKind)
  | bool
  | str
  | slice (e : Sh) (sz by_ : Nat)
  | arr (n : Nat) (e : Sh)
  | nil
  | cons (a : Sh) (b : Sh)

/-- The cells read as a datum of the shape. -/
def Rds (w : World) : Sh → List Value → Prop
  | .int k, cs => ∃ n : Int, cs = [.int k n] ∧ (Lit.int k n).wf = true
  | .bool, cs => ∃ b, cs = [.bool b]
  | .str, cs => ∃ s : ByteArray, cs = [.string s] ∧ s.size ≤ 140737488351232
  | .slice e sz by_, cs => ∃ (A : Option Addr) (n c : Nat) (rows : List (List Value)), cs = [.slice A n c] ∧ c * by_ ≤ 140737488351232 ∧ rows.length = n ∧ (∀ r ∈ rows, r.length = sz ∧ Rds w e r) ∧ Sl w w.heap.size sz A n c rows.flatten
  | .arr n e, cs => ∃ rows : List (List Value), cs = rows.flatten ∧ rows.length = n ∧ ∀ r ∈ rows, Rds w e r
  | .nil, cs => cs = []
  | .cons a b, cs => ∃ xs ys, cs = xs ++ ys ∧ Rds w a xs ∧ Rds w b ys

/-- A slice of bytes among them. -/
theorem Rds.bytes {w : World} {cs : List Value} (h : Rds w (.slice (.int .u8) 1 1) cs) : ∃ A n c bs, cs = [.slice A n c] ∧ SlB w w.heap.size A n c bs ∧ c ≤ 140737488351232 := by
  obtain ⟨A, n, c, rows, e, hc, hn, hr, hs⟩ := h
  have H : ∀ rows : List (List Value), (∀ r ∈ rows, r.length = 1 ∧ Rds w (.int .u8) r) → ∃ bs : List UInt8, rows.flatten = bs.map b8 := by
    intro rows
    induction rows with
    | nil => exact fun _ => ⟨[], rfl⟩
    | cons r rows ih =>
      intro h
      obtain ⟨bs, hb⟩ := ih fun x hx => h x (List.mem_cons_of_mem _ hx)
      obtain ⟨_, z, e, hz⟩ := h r (List.mem_cons_self ..)
      subst e
      exact ⟨UInt8.ofNat z.toNat :: bs, by rw [List.flatten_cons, hb, List.map_cons, b8_of hz]; rfl⟩
  obtain ⟨bs, hb⟩ := H rows hr
  exact ⟨A, n, c, bs, e, by rw [SlB, ← hb]; exact hs, by omega⟩
/-- An array of bytes among them. -/
theorem Rds.arr8 {w : World} {N : Nat} {cs : List Value} (h : Rds w (.arr N (.int .u8)) cs) : ∃ bs : List UInt8, cs = bs.map b8 ∧ bs.length = N := by
  obtain ⟨rows, e, hn, hr⟩ := h
  have H : ∀ rows : List (List Value), (∀ r ∈ rows, Rds w (.int .u8) r) → ∃ bs : List UInt8, rows.flatten = bs.map b8 ∧ bs.length = rows.length := by
    intro rows
    induction rows with
    | nil => exact fun _ => ⟨[], rfl, rfl⟩
    | cons r rows ih =>
      intro h
      obtain ⟨bs, hb, hl⟩ := ih fun x hx => h x (List.mem_cons_of_mem _ hx)
      obtain ⟨z, e, hz⟩ := h r (List.mem_cons_self ..)
      subst e
      exact ⟨UInt8.ofNat z.toNat :: bs, by rw [List.flatten_cons, hb, List.map_cons, b8_of hz]; rfl, by simp [hl]⟩
  obtain ⟨bs, hb, hl⟩ := H rows hr
  exact ⟨bs, by rw [e, hb], by rw [hl, hn]⟩

section
variable {H : Type} {enc : TypeId × Value → H} {P : Program} {W : World}

def Opens (H : Type) (enc : TypeId × Value → H) (P : Program) (W : World) (s : Sh) (t : TypeId) : Prop :=
  ∀ (fuel : Nat) (cs : List Value) (x : DataW H × List MemPlace), DataW.trod enc P W 0 (fun _ => true) true fuel t cs = some x → (∀ k ∈ x.1.weights P t, k ≤ 140737488351232) → Rds W s cs
/-- The fields from one on, at their places. -/
def OpensF (H : Type) (enc : TypeId × Value → H) (P : Program) (W : World) (s : Sh) (fs : List Field) (off N : Nat) : Prop :=
  ∀ (fuel : Nat) (cs : List Value) (xs : List (DataW H × List MemPlace)), xs.length = fs.length → cs.length = N →
    (∀ (i : Nat) (f : Field), fs[i]? = some f → DataW.trod enc P W 0 (fun _ => true) true fuel f.type ((cs.drop f.offset).take (P.cellsOf f.type)) = xs[i]?) →
    (∀ k ∈ DataW.weightsEach P (fs.map (·.type)) (xs.map (·.1)), k ≤ 140737488351232) → Rds W s (cs.drop off)

theorem Opens.int {k : IntKind} {t : TypeId} (ht : P.underlying t = some (.int k)) : Opens H enc P W (.int k) t := fun _ _ _ h _ => by
  obtain ⟨n, e, _, hw⟩ := DataW.trod_int ht h
  exact ⟨n, e, hw⟩
theorem Opens.bool {t : TypeId} (ht : P.underlying t = some .bool) : Opens H enc P W .bool t := fun _ _ _ h _ => by
  obtain ⟨b, e, _⟩ := DataW.trod_bool ht h
  exact ⟨b, e⟩
theorem Opens.str {t : TypeId} (ht : P.underlying t = some .string) : Opens H enc P W .str t := fun _ _ _ h hw => by
  obtain ⟨s, e, rfl, _⟩ := DataW.trod_string ht h
  have := hw s.size (by simp [DataW.weights])
  exact ⟨s, e, this⟩

theorem weightsAll_mem : ∀ (ds : List (DataW H)) (e : TypeId) (d : DataW H), d ∈ ds → ∀ k ∈ d.weights P e, k ∈ DataW.weightsAll P e ds
  | d0 :: ds, e, d, hd, k, hk => by
    simp only [DataW.weightsAll, List.mem_append]
    rcases List.mem_cons.1 hd with rfl | hd
    · exact .inl hk
    · exact .inr (weightsAll_mem ds e d hd k hk)
  | [], _, _, hd, _, _ => by cases hd

theorem flatten_get (sz : Nat) : ∀ (rows : List (List Value)), (∀ r ∈ rows, r.length = sz) → ∀ (i j : Nat) (r : List Value), rows[i]? = some r → j < sz → rows.flatten[i * sz + j]? = r[j]?
  | [], _, i, j, r, hr, _ => by simp at hr
  | r0 :: rows, h, 0, j, r, hr, hj => by
    simp only [List.getElem?_cons_zero, Option.some.injEq] at hr
    subst hr
    rw [List.flatten_cons, Nat.zero_mul, Nat.zero_add, List.getElem?_append_left (by rw [h r0 (List.mem_cons_self ..)]; exact hj)]
  | r0 :: rows, h, i + 1, j, r, hr, hj => by
    have h0 := h r0 (List.mem_cons_self ..)
    rw [List.flatten_cons, List.getElem?_append_right (by rw [h0, Nat.add_mul]; omega), h0, show (i + 1) * sz + j - sz = i * sz + j from by rw [Nat.add_mul]; omega]
    exact flatten_get sz rows (fun x hx => h x (List.mem_cons_of_mem _ hx)) i j r (by simpa using hr) hj
theorem flatten_len (sz : Nat) : ∀ (rows : List (List Value)), (∀ r ∈ rows, r.length = sz) → rows.flatten.length = rows.length * sz
  | [], _ => by simp
  | r :: rows, h => by
    rw [List.flatten_cons, List.length_append, h r (List.mem_cons_self ..), flatten_len sz rows fun x hx => h x (List.mem_cons_of_mem _ hx), List.length_cons, Nat.add_mul]
    omega

theorem Opens.slice {e : Sh} {t et : TypeId} {sz by_ : Nat} (ht : P.underlying t = some (.slice et)) (hsz : P.cellsOf et = sz) (hpos : 0 < sz) (hby : P.bytesOf et = by_) (he : Opens H enc P W e et) : Opens H enc P W (.slice e sz by_) t := by
  intro fuel cs x h hw
  subst hsz hby
  rcases open_slice ht h with ⟨rfl, rfl⟩ | ⟨a, len, cap, m, n, D, Pl, rfl, _, hl, hm, hmm, rfl, hi⟩
  · exact ⟨none, 0, 0, [], rfl, by omega, rfl, fun r hr => (by cases hr), Sl.nil _ _ _ _⟩
  · simp only [if_true] at hmm
    subst hmm
    simp only [DataW.weights, ht, List.mem_cons, List.mem_append] at hw
    have hcap : m * P.bytesOf et ≤ 140737488351232 := by
      have := hw _ (.inl rfl)
      simpa [show len + (m - len) = m from by omega] using this
    have hrow : ∀ i, i < len → ∃ r : List Value, (r.length = P.cellsOf et ∧ Rds W e r) ∧ ∀ j, j < P.cellsOf et → W.cell? (a.add (i * P.cellsOf et + j)) = r[j]? := by
      intro i hil
      obtain ⟨cs', hc, ht'⟩ := hi i (by omega)
      obtain ⟨_, hlen, hat⟩ := World.cells?_some hc
      refine ⟨cs', ⟨hlen, he n cs' _ ht' fun k hk => hw k (.inr (.inl (weightsAll_mem _ _ (D i) (List.mem_map.2 ⟨i, List.mem_range.2 hil, rfl⟩) k hk)))⟩, fun j hj => ?_⟩
      rw [← hat j hj, Go.Deep.add_add]
    -- all of them
    have hrows : ∃ rows : List (List Value), rows.length = len ∧ ∀ (i : Nat) (r : List Value), rows[i]? = some r → (r.length = P.cellsOf et ∧ Rds W e r) ∧ ∀ j, j < P.cellsOf et → W.cell? (a.add (i * P.cellsOf et + j)) = r[j]? := by
      clear hw hcap hi ht h
      induction len with
      | zero => exact ⟨[], rfl, fun i r hr => by simp at hr⟩
      | succ len ih =>
        obtain ⟨rows, h1, h2⟩ := ih (by omega) fun i hi => hrow i (by omega)
        obtain ⟨r, hr⟩ := hrow len (by omega)
        refine ⟨rows ++ [r], by simp [h1], fun i r' hr' => ?_⟩
        rw [List.getElem?_append] at hr'
        split at hr'
        · exact h2 i r' hr'
        · have hil : i = len := by
            rcases Nat.lt_or_ge (i - rows.length) 1 with h | h
            · omega
            · rw [List.getElem?_eq_none (by simpa using h)] at hr'; cases hr'
          subst hil
          simp [h1] at hr'
          subst hr'
          exact hr
    obtain ⟨rows, h1, h2⟩ := hrows
    have h3 : ∀ r ∈ rows, r.length = P.cellsOf et ∧ Rds W e r := fun r hr => by
      obtain ⟨i, hi', e'⟩ := List.getElem_of_mem hr
      exact (h2 i r (by rw [List.getElem?_eq_getElem hi', e'])).1
    have hfl := flatten_len _ rows fun r hr => (h3 r hr).1
    refine ⟨some a, len, m, rows, rfl, hcap, h1, h3, ⟨by rw [hfl, h1], hl, hm, fun hc0 => ?_⟩⟩
    obtain ⟨cs0, hc, _⟩ := hi 0 (by omega)
    obtain ⟨_, hlen0, hat0⟩ := World.cells?_some hc
    have hcell0 : W.cell? a = cs0[0]? := by
      have := hat0 0 hpos
      simpa [Addr.add] using this
    obtain ⟨b, off, spot⟩ := a
    have hs0 : cs0[0]? = some (cs0[0]'(by omega)) := List.getElem?_eq_getElem (by omega)
    rw [hs0] at hcell0
    have hspot : spot = none := by simpa using World.cell?_spot hcell0
    subst hspot
    refine ⟨b, off, rfl, World.block_lt_of_cell? W _ hcell0, fun j u hu => ?_⟩
    have hjl : j < rows.length * P.cellsOf et := by
      rw [← hfl]
      rcases Nat.lt_or_ge j rows.flatten.length with h | h
      · exact h
      · rw [List.getElem?_eq_none h] at hu; cases hu
    have hq : j / P.cellsOf et < rows.length := (Nat.div_lt_iff_lt_mul hpos).2 hjl
    have hr : j % P.cellsOf et < P.cellsOf et := Nat.mod_lt _ hpos
    have hj : j / P.cellsOf et * P.cellsOf et + j % P.cellsOf et = j := by rw [Nat.mul_comm]; exact Nat.div_add_mod _ _
    have h4 := flatten_get _ rows (fun r hr => (h3 r hr).1) (j / P.cellsOf et) (j % P.cellsOf et) _ (List.getElem?_eq_getElem hq) hr
    rw [hj] at h4
    have h5 := (h2 (j / P.cellsOf et) _ (List.getElem?_eq_getElem hq)).2 _ hr
    rw [hj, ← h4, hu, Addr.add_lit] at h5
    exact h5

theorem OpensF.nil {off N : Nat} (h : off = N) : OpensF H enc P W .nil [] off N := fun _ cs _ _ hl _ _ => by
  subst h
  rw [Rds, List.drop_of_length_le (by omega)]
theorem OpensF.cons {a b : Sh} {f : Field} {fs : List Field} {off n N : Nat} (ho : f.offset = off) (hn : P.cellsOf f.type = n) (ha : Opens H enc P W a f.type) (hb : OpensF H enc P W b fs (off + n) N) : OpensF H enc P W (.cons a b) (f :: fs) off N := by
  intro fuel cs xs hl hcs ht hw
  match xs, hl with
  | x :: xs, hl =>
    have h0 := ht 0 f rfl
    rw [ho, hn] at h0
    refine ⟨_, _, (List.take_append_drop n (cs.drop off)).symm, ha fuel _ x h0 fun k hk => hw k (by simp [DataW.weightsEach, hk]), ?_⟩
    rw [List.drop_drop]
    exact hb fuel cs xs (by simpa using hl) hcs (fun i g hg => by simpa using ht (i + 1) g (by simpa using hg)) fun k hk => hw k (by
      simp only [List.map_cons, DataW.weightsEach, List.mem_append]
      exact .inr hk)
theorem Opens.struct {s : Sh} {t : TypeId} {fs : Array Field} {N : Nat} (ht : P.underlying t = some (.struct fs)) (hN : P.cellsOf t = N) (h : OpensF H enc P W s fs.toList 0 N) : Opens H enc P W s t := by
  intro fuel cs x hx hw
  obtain ⟨xs, n, _, rfl, hl, hxl, hf⟩ := DataW.trod_struct ht hx
  simp only [DataW.weights, ht] at hw
  have := h n cs xs (by simpa using hxl) (by omega) (fun i f hfi => hf i f (by simpa using hfi)) hw
  simpa using this
theorem Opens.arr {e : Sh} {t et : TypeId} {n se : Nat} (ht : P.underlying t = some (.array n et)) (hse : P.cellsOf et = se) (hN : P.cellsOf t = n * se) (h : Opens H enc P W e et) : Opens H enc P W (.arr n e) t := by
  intro fuel cs x hx hw
  subst hse
  obtain ⟨xs, m, _, rfl, hl, hxl, hf⟩ := DataW.trod_array ht hx
  simp only [DataW.weights, ht] at hw
  refine ⟨(List.range n).map fun i => (cs.drop (i * P.cellsOf et)).take (P.cellsOf et), ?_, by simp, fun r hr => ?_⟩
  · have hlen : cs.length = n * P.cellsOf et := by omega
    clear hf hw hx ht hxl hN hl
    induction n generalizing cs with
    | zero => simp at hlen; simp [hlen]
    | succ n ih =>
      rw [List.range_succ_eq_map, List.map_cons, List.flatten_cons, List.map_map]
      have h1 := ih (cs.drop (P.cellsOf et)) (by rw [List.length_drop, hlen, Nat.add_mul]; omega)
      have h2 : ((fun i => (cs.drop (i * P.cellsOf et)).take (P.cellsOf et)) ∘ Nat.succ) = fun i => ((cs.drop (P.cellsOf et)).drop (i * P.cellsOf et)).take (P.cellsOf et) := by
        funext i
        simp only [Function.comp, List.drop_drop]
        rw [show (Nat.succ i) * P.cellsOf et = P.cellsOf et + i * P.cellsOf et from by rw [Nat.succ_mul]; omega]
      rw [h2, ← h1, Nat.zero_mul, List.drop_zero, List.take_append_drop]
  · obtain ⟨i, hi, rfl⟩ := List.mem_map.1 hr
    have hi := List.mem_range.1 hi
    have h1 := hf i hi
    rw [List.getElem?_eq_getElem (by omega)] at h1
    exact h m _ _ h1 fun k hk => hw k (weightsAll_mem _ _ (xs[i]'(by omega)).1 (List.mem_map.2 ⟨_, List.getElem_mem _, rfl⟩) k hk)

/-- A parameter, opened. -/
theorem Opens.par {s : Sh} {t : TypeId} (h : Opens H enc P W s t) {v : Value} {d : DataW H} {p : List MemPlace} (ht : DataW.Trod enc P W 0 (fun _ => true) true t v d p) {ts : List TypeId} {ds : List (DataW H)} (hs : InReach P ts ds) (j : Nat) (hj : ts[j]? = some t) (hd : ds[j]? = some d) :
    Rds W s v.cells.toList := by
  obtain ⟨fuel, hf⟩ := ht
  refine h fuel _ _ hf fun k hk => ?_
  have := of_decide_eq_true (List.all_eq_true.1 hs k (DataW.weights_mem_each hj hd k hk))
  simpa [reachBytes] using this
theorem agg_cells {v : Value} {t : TypeId} {r : Reach} {b0 : Nat} (h : Value.okWide P W r b0 t v) (ht : (match P.underlying t with | some (.struct _) | some (.array _ _) => true | _ => false) = true) : ∃ cs : List Value, v = .agg cs.toArray ∧ v.cells.toList = cs := by
  unfold Value.okWide at h
  split at h
  · obtain ⟨cs, rfl, _⟩ := h
    exact ⟨cs.toList, by simp, by simp [Value.cells]⟩
  · obtain ⟨cs, rfl, _⟩ := h
    exact ⟨cs.toList, by simp, by simp [Value.cells]⟩
  · rename_i h1 h2
    split at ht
    · rename_i e; exact absurd e (h1 _)
    · rename_i e; exact absurd e (h2 _ _)
    · cases ht
theorem slice_cells {v : Value} {t e : TypeId} {r : Reach} {b0 : Nat} (ht : P.underlying t = some (.slice e)) (h : Value.okWide P W r b0 t v) : v.cells.toList = [v] := by
  obtain ⟨A, n, c, rfl⟩ := okWide_slice ht h
  rfl
end
end Go.Proofs.Ytkiiobfomnggcaa
end
