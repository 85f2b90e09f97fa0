/-
  Plain lemmas on worlds, blocks and slices that the proofs of this seat use; no function of the program is named here.
-/
import Derived.WalkKit
import Derived.ProofKit
import Derived.OpenShut
import Derived.ShutString
import Derived.ChangeOld
import Derived.Below
import Derived.BigQuiet
import Derived.Deep.QuietTactic
import Derived.Deep.AppendLies
import Derived.Deep.Draws
import Derived.Laws.OwnMore
import Derived.Laws.MakeOwn
import Derived.Laws.Entries
import Derived.Laws.Rows
import Derived.Lib.Hide
import Derived.Outline
import Derived.SizedLaws
import Derived.WalkSpells
import Derived.WalkLawsBesides
namespace Go.Proofs.Ytbphoilfiahnpaa
open Go.RowKit
set_option linter.unusedVariables false

theorem quiet_left {P : Program} {f : FuncId} {args : Array Value} {w : World} {n : Nat} {v : Value}
    (h : Calls P f args (w.drewN n) fun e w' => e = .returned v ∧ w.drewN n = w') : Calls P f args (w.drewN n) fun e w' => e = .returned v ∧ ∃ m, w' = w.drewN m :=
  h.mono fun _ _ ⟨he, hm⟩ => ⟨he, n, hm.symm⟩
theorem quiet_add_left {P : Program} {f : FuncId} {args : Array Value} {w : World} {a n : Nat} {v : Value}
    (h : Calls P f args (w.drewN (a + n)) fun e w' => e = .returned v ∧ w.drewN (a + n) = w') :
    Calls P f args (w.drewN (a + n)) fun e w'' => e = .returned v ∧ ∃ m, w'' = w.drewN (a + m) :=
  h.mono fun _ _ ⟨he, hm⟩ => ⟨he, n, hm.symm⟩

theorem i64_bd {a : Int} (ha : (Lit.int .i64 a).wf = true) : -9223372036854775808 ≤ a ∧ a ≤ 9223372036854775807 := by
  simpa [Lit.wf, IntKind.min, IntKind.max, IntKind.signed, IntKind.bits] using ha
theorem u8_bd {a : Int} (ha : (Lit.int .u8 a).wf = true) : 0 ≤ a ∧ a ≤ 255 := by
  simpa [Lit.wf, IntKind.min, IntKind.max, IntKind.signed, IntKind.bits] using ha

theorem below_drewN {B : Nat} {a w : World} (h : Below B a w) (n : Nat) : Below B a (w.drewN n) := ⟨h.os, h.tape, h.output, h.size, h.block⟩

/-! ### Blocks known whole -/
def Blk (w : World) (g : Nat) (t : TypeId) (cs : Array Value) : Prop := w.heap[g]? = some (.cells cs t (0, 0))

section
variable {w w' : World} {g : Nat} {t : TypeId} {cs : Array Value}
theorem Blk.lt (h : Blk w g t cs) : g < w.heap.size := by
  rcases Nat.lt_or_ge g w.heap.size with hlt | hge
  · exact hlt
  · unfold Blk at h; rw [Array.getElem?_eq_none hge] at h; cases h
theorem Blk.cell (h : Blk w g t cs) (i : Nat) : w.cell? ⟨g, i, none⟩ = cs[i]? := cell_of_row w g i cs t (0, 0) h
theorem Blk.frozen (h : Blk w g t cs) (i : Nat) : w.frozen? ⟨g, i, none⟩ = false := by
  unfold Blk at h
  simp [World.frozen?, h]
theorem Blk.new (w : World) (t : TypeId) (cs : Array Value) : Blk (w.alloc (.cells cs t)) w.heap.size t cs := heap_alloc_new w _
theorem Blk.drew (h : Blk w g t cs) : Blk w.drew g t cs := h
theorem Blk.drewN (h : Blk w g t cs) (n : Nat) : Blk (w.drewN n) g t cs := h
theorem Blk.alloc (h : Blk w g t cs) (o : Obj) : Blk (w.alloc o) g t cs := (Below.heap_alloc w o g h.lt).trans h
theorem Blk.set_ (h : Blk w g t cs) (i : Nat) (u : Value) : Blk (w.setCell ⟨g, i, none⟩ u) g t (cs.setIfInBounds i u) := by
  unfold Blk at h ⊢
  simp [World.setCell, Array.getElem?_modify, h]
theorem Blk.far (h : Blk w g t cs) {p : Addr} (hp : g ≠ p.block) (u : Value) : Blk (w.setCell p u) g t cs := (Below.heap_setCell w p u g hp).trans h
theorem Blk.below {B : Nat} (h : Blk w g t cs) (hb : Below B w w') (hg : g < B) : Blk w' g t cs := (hb.block g hg).trans h
theorem Blk.grown {row : Option Nat} (h : Blk w g t cs) (hb : w.grownBy w' row) (hg : some g ≠ row) : Blk w' g t cs := (hb.block g h.lt hg).trans h
end

theorem grownBy_setCell (w : World) (g i : Nat) (u : Value) : w.grownBy (w.setCell ⟨g, i, none⟩ u) (some g) :=
  ⟨rfl, rfl, rfl, by simp [World.setCell], fun k _ hne => Below.heap_setCell w ⟨g, i, none⟩ u k (fun e => hne (by rw [e]))⟩
theorem grownBy_trans {a b c : World} {row : Option Nat} (h : a.grownBy b row) (k : b.grownBy c row) : a.grownBy c row :=
  ⟨k.os.trans h.os, k.tape.trans h.tape, k.output.trans h.output, Nat.le_trans h.size k.size, fun i hi hne => (k.block i (Nat.lt_of_lt_of_le hi h.size) hne).trans (h.block i hi hne)⟩
theorem grownBy_none {a b : World} {row : Option Nat} (h : a.grownBy b none) : a.grownBy b row := ⟨h.os, h.tape, h.output, h.size, fun k hk _ => h.block k hk (by simp)⟩
theorem grownBy_of_below {a b : World} {row : Option Nat} (h : Below a.heap.size a b) : a.grownBy b row := ⟨h.os, h.tape, h.output, h.size, fun k hk _ => h.block k hk⟩

/-! ### make of elements of any number of cells -/
theorem run_make_rowN {P : Program} (t e : TypeId) (i : TypeInfo) (z : Value) (ht : P.underlying t = some (.slice e)) (hi : P.info? e = some i) (hz : i.zero = some z)
    (kl kc : IntKind) (n c : Nat) (hnc : n ≤ c) (hbytes : i.bytes * c ≤ 281474976710656) (h63 : c ≤ 9223372036854775807) (w : World) :
    (Instr.makeSlice t (.int kl (n : Int)) (.int kc (c : Int))).run P w = .ok (.slice (some ⟨w.heap.size, 0, none⟩) n c) (w.alloc (.cells (madeCells z.cells (c * i.size)) e)) := by
  have hb : (i.bytes : Int) * (c : Int) ≤ 281474976710656 := by
    have h : ((i.bytes * c : Nat) : Int) ≤ 281474976710656 := by omega
    rwa [Int.natCast_mul] at h
  have hr := run_make (P := P) w t e i z ht hi hz kl kc n c (by omega) (by omega) hb (by omega)
  simp only [Int.toNat_natCast] at hr
  exact hr

/-! ### Slices that read as a list of cells ('Sl'), and slices of the call's own ('Row') -/
/-- The slice '.slice A n c' of elements of 'size' cells reads as the cells xs; its array lies below block B. -/
def Sl (w : World) (B size : Nat) (A : Option Addr) (n c : Nat) (xs : List Value) : Prop :=
  xs.length = n * size ∧ n ≤ c ∧ c ≤ maxLen ∧ (0 < c → ∃ b off, A = some ⟨b, off, none⟩ ∧ b < B ∧ ∀ j u, xs[j]? = some u → w.cell? ⟨b, off + j, none⟩ = some u)

/-- The slice '.slice A n c' is the call's own: it has no room at all, or it begins a block of its own, from 'base' on. -/
def Row (w : World) (base : Nat) (e : TypeId) (size : Nat) (A : Option Addr) (n c : Nat) (xs : List Value) : Prop :=
  xs.length = n * size ∧ n ≤ c ∧ c ≤ maxLen ∧ (0 < c → ∃ g cur, A = some ⟨g, 0, none⟩ ∧ base ≤ g ∧ Blk w g e cur ∧ c * size ≤ cur.size ∧ cur.toList.take (n * size) = xs)

section
variable {w w' : World} {B B' size n c base : Nat} {e : TypeId} {A : Option Addr} {xs : List Value}
theorem Sl.keep (h : Sl w B size A n c xs) (hk : ∀ p : Addr, p.block < B → w'.cell? p = w.cell? p) : Sl w' B size A n c xs :=
  ⟨h.1, h.2.1, h.2.2.1, fun hc => by
    obtain ⟨b, off, e, hb, hj⟩ := h.2.2.2 hc
    exact ⟨b, off, e, hb, fun j u hu => (hk _ hb).trans (hj j u hu)⟩⟩
theorem Sl.more (h : Sl w B size A n c xs) (hB : B ≤ B') : Sl w B' size A n c xs :=
  ⟨h.1, h.2.1, h.2.2.1, fun hc => by
    obtain ⟨b, off, e, hb, hj⟩ := h.2.2.2 hc
    exact ⟨b, off, e, by omega, hj⟩⟩
theorem Sl.below (h : Sl w B size A n c xs) (hb : Below B w w') : Sl w' B size A n c xs := h.keep fun _ hp => hb.cell hp
theorem Sl.drewN (h : Sl w B size A n c xs) (k : Nat) : Sl (w.drewN k) B size A n c xs := h
theorem Sl.at_ (h : Sl w B size A n c xs) (hc : 0 < c) : ∃ b off, A = some ⟨b, off, none⟩ ∧ b < B ∧ ∀ j u, xs[j]? = some u → w.cell? ⟨b, off + j, none⟩ = some u := h.2.2.2 hc
theorem Sl.nil (w : World) (B size : Nat) (A : Option Addr) : Sl w B size A 0 0 [] := ⟨by simp, Nat.le_refl _, by simp [maxLen], fun h => absurd h (by omega)⟩
theorem Sl.le (h : Sl w B size A n c xs) : n ≤ maxLen := Nat.le_trans h.2.1 h.2.2.1
/-- A cut 's[lo:hi]'. -/
theorem Sl.cut (h : Sl w B size A n c xs) {lo hi : Nat} (hl : lo ≤ hi) (hh : hi ≤ n) :
    Sl w B size (if c = lo then A else A.map (·.add (lo * size))) (hi - lo) (c - lo) ((xs.drop (lo * size)).take ((hi - lo) * size)) := by
  have h1 := h.1
  have h2 := h.2.1
  have h3 := h.2.2.1
  refine ⟨?_, by omega, by omega, fun hc => ?_⟩
  · rw [List.length_take, List.length_drop, h1, ← Nat.sub_mul, Nat.min_eq_left]
    exact Nat.mul_le_mul_right _ (by omega)
  · obtain ⟨b, off, rfl, hb, hj⟩ := h.2.2.2 (by omega)
    rw [if_neg (by omega)]
    refine ⟨b, off + lo * size, ?_, hb, fun j u hu => ?_⟩
    · rw [Option.map_some, Addr.add_lit]
    · rw [Nat.add_assoc]
      rw [List.getElem?_take] at hu
      split at hu
      · exact hj _ u (by rw [← hu, List.getElem?_drop])
      · cases hu

theorem Row.sl (h : Row w base e size A n c xs) : Sl w w.heap.size size A n c xs :=
  ⟨h.1, h.2.1, h.2.2.1, fun hc => by
    obtain ⟨g, cur, rfl, hg, hb, hs, ht⟩ := h.2.2.2 hc
    refine ⟨g, 0, rfl, hb.lt, fun j u hu => ?_⟩
    rw [Nat.zero_add, hb.cell]
    rw [← ht, List.getElem?_take] at hu
    split at hu
    · simpa using hu
    · cases hu⟩
theorem Row.nil (w : World) (base : Nat) (e : TypeId) (size : Nat) (A : Option Addr) : Row w base e size A 0 0 [] := ⟨by simp, Nat.le_refl _, by simp [maxLen], fun h => absurd h (by omega)⟩
theorem Row.new (w : World) (base : Nat) (e : TypeId) (size : Nat) (cur : Array Value) (n c : Nat) (hb : base ≤ w.heap.size) (hn : n ≤ c) (hc : c ≤ maxLen) (hs : cur.size = c * size) :
    Row (w.alloc (.cells cur e)) base e size (some ⟨w.heap.size, 0, none⟩) n c (cur.toList.take (n * size)) :=
  ⟨by rw [List.length_take, Array.length_toList, hs, Nat.min_eq_left (Nat.mul_le_mul_right _ hn)], hn, hc, fun _ => ⟨w.heap.size, cur, rfl, hb, Blk.new _ _ _, Nat.le_of_eq hs.symm, rfl⟩⟩
/-- What became of the world kept the row's own block. -/
theorem Row.keep (h : Row w base e size A n c xs) (hk : ∀ g, A = some ⟨g, 0, none⟩ → g < w.heap.size → w'.heap[g]? = w.heap[g]?) : Row w' base e size A n c xs :=
  ⟨h.1, h.2.1, h.2.2.1, fun hc => by
    obtain ⟨g, cur, e1, hg, hb, hs, ht⟩ := h.2.2.2 hc
    exact ⟨g, cur, e1, hg, (hk g e1 hb.lt).trans hb, hs, ht⟩⟩
theorem Row.below (h : Row w base e size A n c xs) (hb : Below w.heap.size w w') : Row w' base e size A n c xs := h.keep fun g _ hg => hb.block g hg
theorem Row.alloc (h : Row w base e size A n c xs) (o : Obj) : Row (w.alloc o) base e size A n c xs := h.keep fun g _ hg => Below.heap_alloc w o g hg
theorem Row.drewN (h : Row w base e size A n c xs) (k : Nat) : Row (w.drewN k) base e size A n c xs := h
theorem Row.drew (h : Row w base e size A n c xs) : Row w.drew base e size A n c xs := h
theorem Row.base_le (h : Row w base e size A n c xs) {b' : Nat} (hb : b' ≤ base) : Row w b' e size A n c xs :=
  ⟨h.1, h.2.1, h.2.2.1, fun hc => by
    obtain ⟨g, cur, e1, hg, hr⟩ := h.2.2.2 hc
    exact ⟨g, cur, e1, by omega, hr⟩⟩
/-- A cut at the end: 's[:k]'. -/
theorem Row.trim (h : Row w base e size A n c xs) {k : Nat} (hk : k ≤ n) : Row w base e size A k c (xs.take (k * size)) := by
  have h2 := h.2.1
  refine ⟨?_, by omega, h.2.2.1, fun hc => ?_⟩
  · rw [List.length_take, h.1, Nat.min_eq_left (Nat.mul_le_mul_right _ hk)]
  · obtain ⟨g, cur, e1, hg, hb, hs, ht⟩ := h.2.2.2 hc
    refine ⟨g, cur, e1, hg, hb, hs, ?_⟩
    rw [← ht, List.take_take, Nat.min_eq_left (Nat.mul_le_mul_right _ hk)]
end

/-! ### append -/
/-- The block that an append to '.slice A n c' may have written. -/
def wrote (A : Option Addr) (c : Nat) : Option Nat := if c = 0 then none else A.map (·.block)
/-- What an append of m elements did: there was room and the slice stands where it stood; or it begins the new block. -/
def Went (w w' : World) (A : Option Addr) (n c m : Nat) (A' : Option Addr) (c' : Nat) : Prop :=
  (n + m ≤ c ∧ A' = A ∧ c' = c ∧ w.grownBy w' (wrote A c)) ∨ (c < n + m ∧ A' = some ⟨w.heap.size, 0, none⟩ ∧ n + m ≤ c' ∧ w.grownBy w' none)
theorem Went.stay {w w' : World} {A A' : Option Addr} {n c m c' : Nat} (h : Went w w' A n c m A' c') (hr : n + m ≤ c) : A' = A ∧ c' = c := by
  rcases h with ⟨_, h1, h2, _⟩ | ⟨h0, _⟩
  · exact ⟨h1, h2⟩
  · omega
theorem Went.moved {w w' : World} {A A' : Option Addr} {n c m c' : Nat} (h : Went w w' A n c m A' c') (hr : c < n + m) : A' = some ⟨w.heap.size, 0, none⟩ ∧ n + m ≤ c' ∧ w.grownBy w' none := by
  rcases h with ⟨h0, _⟩ | ⟨_, h1, h2, h3⟩
  · omega
  · exact ⟨h1, h2, h3⟩
theorem Went.grown {w w' : World} {A A' : Option Addr} {n c m c' : Nat} (h : Went w w' A n c m A' c') : w.grownBy w' (wrote A c) := by
  rcases h with ⟨_, _, _, h3⟩ | ⟨_, _, _, h3⟩
  · exact h3
  · exact ⟨h3.os, h3.tape, h3.output, h3.size, fun k hk _ => h3.block k hk (by simp)⟩

section
variable {P : Program}
theorem run_firstCells_sl {w : World} {B size : Nat} {A : Option Addr} {m c : Nat} {news : List Value} (h : Sl w B size A m c news) (w1 : World) (hw : ∀ a, w1.cell? a = w.cell? a) :
    (Builtin.firstCells size m (.slice A m c)).run P w1 = .ok news.toArray w1 := by
  rcases Nat.eq_zero_or_pos m with h0 | h0
  · subst h0
    obtain rfl : news = [] := List.eq_nil_of_length_eq_zero (by simpa using h.1)
    cases A with
    | none => simp [Builtin.firstCells]
    | some a => simp [Builtin.firstCells, loadCells, loadCellsFrom]
  · obtain ⟨b, off, rfl, _, hj⟩ := h.2.2.2 (by have := h.2.1; omega)
    exact run_firstCells_some w1 size m _ m c news h.1 (fun j v hv => by rw [Addr.add_lit, hw]; exact hj j v hv)

theorem run_append_row {w : World} {base : Nat} {t ty e : TypeId} {i : TypeInfo} {z : Value} {size bytes : Nat} (ht : P.underlying t = some (.slice e)) (hi : P.info? e = some i) (hz : i.zero = some z)
    (hsize : i.size = size) (hby : i.bytes = bytes) (hzs : z.cells.size = size)
    {A : Option Addr} {n c : Nat} {xs : List Value} (hown : Row w base e size A n c xs)
    {B : Nat} {A2 : Option Addr} {m c2 : Nat} {news : List Value} (hr : Sl w B size A2 m c2 news) (h1 : ∀ u ∈ news, u.oneCell' = true)
    (hbytes : (n + m) * bytes ≤ 140737488355328) (h63 : n + m ≤ maxLen) (hbase : base ≤ w.heap.size) :
    ∃ A' c' w', (Builtin.append_ #[t, t] ty #[.slice A n c, .slice A2 m c2]).run P w = .ok (.slice A' (n + m) c') w' ∧ Row w' base e size A' (n + m) c' (xs ++ news) ∧
      Went w w' A n c m A' c' := by
  subst hsize
  subst hby
  have hlen : (xs ++ news).length = (n + m) * i.size := by rw [List.length_append, hown.1, hr.1, Nat.add_mul]
  have hnews := run_firstCells_sl (P := P) hr w (fun _ => rfl)
  by_cases hroom : n + m ≤ c
  · rcases Nat.eq_zero_or_pos c with hc0 | hc0
    · -- no room at all, and nothing to append
      obtain rfl : n = 0 := by omega
      obtain rfl : m = 0 := by omega
      subst hc0
      obtain rfl : news = [] := List.eq_nil_of_length_eq_zero (by simpa using hr.1)
      obtain rfl : xs = [] := List.eq_nil_of_length_eq_zero (by simpa using hown.1)
      refine ⟨A, 0, w, ?_, Row.nil _ _ _ _ _, .inl ⟨by omega, rfl, rfl, World.grownBy.refl _ _⟩⟩
      cases A with
      | none => simp [Builtin.append_, run_underlying ht, sizeOf, typeInfo, hi, Builtin.lenOf, hnews]
      | some a => simp [Builtin.append_, run_underlying ht, sizeOf, typeInfo, hi, Builtin.lenOf, hnews, storeCells]
    · obtain ⟨g, cur, rfl, hg, hb, hs, htk⟩ := hown.2.2.2 hc0
      have hfit : n * i.size + news.length ≤ cur.size := by rw [hr.1, ← Nat.add_mul]; exact Nat.le_trans (Nat.mul_le_mul_right _ hroom) hs
      have hst := run_storeCells_at P g (n * i.size) e news 0 cur w hb (by simpa using hfit) h1
      simp only [Nat.add_zero] at hst
      refine ⟨some ⟨g, 0, none⟩, c, w.setRow g (cur.toList.take (n * i.size) ++ news ++ cur.toList.drop (n * i.size + news.length)).toArray,
        by simp [Builtin.append_, run_underlying ht, sizeOf, typeInfo, hi, Builtin.lenOf, hroom, hnews, Addr.add_lit, hst], ?_, .inl ⟨hroom, rfl, rfl, ?_⟩⟩
      · refine ⟨hlen, hroom, hown.2.2.1, fun _ => ⟨g, _, rfl, hg, setRow_heap w g cur _ e _ hb, ?_, ?_⟩⟩
        · simp only [List.size_toArray, List.length_append, List.length_take, List.length_drop, Array.length_toList]
          omega
        · rw [htk, ← hlen]
          exact List.take_left
      · exact ⟨rfl, rfl, rfl, by simp, fun k _ hk => setRow_other w g k _ (fun e => hk (by rw [wrote, if_neg (by omega)]; simp [e]))⟩
  · have h63' : ¬ (9223372036854775807 < ((n : Int) + (m : Int))) := by simp only [maxLen] at h63; omega
    have h48' : ¬ (281474976710656 < Builtin.nextslicecap (n + m) c * i.bytes) := by have := growslice_fits (old := c) (by omega) hbytes; omega
    have hge := grownCap_ge w (n + m) c e
    have hcm : grownCap w (n + m) c e ≤ maxLen := grownCap_le_maxLen w (n + m) c e h63
    have hnews1 := run_firstCells_sl (P := P) hr w.drew (fun _ => by simp)
    have hold : (Builtin.firstCells i.size n (.slice A n c)).run P w.drew = .ok xs.toArray w.drew := run_firstCells_sl (P := P) hown.sl w.drew (fun _ => by simp)
    refine ⟨some ⟨w.heap.size, 0, none⟩, grownCap w (n + m) c e, w.drew.alloc (.cells (xs.toArray ++ news.toArray ++ Builtin.zeroCells z.cells (grownCap w (n + m) c e - (n + m))) e), ?_, ?_, .inr ⟨by omega, rfl, hge, ?_⟩⟩
    · simp [Builtin.append_, run_underlying ht, sizeOf, typeInfo, zeroValue, hi, hz, Builtin.lenOf, hroom, h63', h48', Question.forced, hnews1, hold, newRow, grownCap]
      rw [← List.append_toArray, Array.append_assoc]
    · refine ⟨hlen, hge, hcm, fun _ => ⟨w.heap.size, _, rfl, hbase, Blk.new w.drew _ _, ?_, ?_⟩⟩
      · simp only [Array.size_append, List.size_toArray, size_zeroCells, hzs, hown.1, hr.1, ← Nat.add_mul]
        refine Nat.mul_le_mul_right _ ?_
        omega
      · simp only [Array.toList_append, List.append_assoc]
        rw [← List.append_assoc, ← hlen]
        exact List.take_left
    · exact ⟨rfl, rfl, rfl, by simp, fun k hk _ => Below.heap_alloc w.drew _ k hk⟩

theorem wpList_append_row {ops : Array Oper} {rest : List Oper} {o : Oper} {a : Act} {Q : Exit → Act → World → Prop} {w : World} (hgd : o.guard = none) (s x : Operand) (t : TypeId)
    (ho : o.op = .call { callee := .builtin .append, args := #[s, x], argTypes := #[t, t] })
    {base : Nat} {e : TypeId} {i : TypeInfo} {z : Value} {size bytes : Nat} (ht : P.underlying t = some (.slice e)) (hi : P.info? e = some i) (hz : i.zero = some z)
    (hsize : i.size = size) (hby : i.bytes = bytes) (hzs : z.cells.size = size)
    {A : Option Addr} {n c : Nat} {xs : List Value} (hs : a.eval s = .slice A n c) (hown : Row w base e size A n c xs)
    {B : Nat} {A2 : Option Addr} {m c2 : Nat} {news : List Value} (hx : a.eval x = .slice A2 m c2) (hr : Sl w B size A2 m c2 news) (h1 : ∀ u ∈ news, u.oneCell' = true)
    (hbytes : (n + m) * bytes ≤ 140737488355328) (h63 : n + m ≤ maxLen) (hbase : base ≤ w.heap.size)
    (h : ∀ A' c' w', Row w' base e size A' (n + m) c' (xs ++ news) → Went w w' A n c m A' c' → wpList P ops Q rest (a.put o.dst (.slice A' (n + m) c')) w') :
    wpList P ops Q (o :: rest) a w := by
  refine wpList_plain hgd fun K hK => ?_
  obtain ⟨A', c', w', hrun, h2, h3⟩ := run_append_row (P := P) (ty := o.type) ht hi hz hsize hby hzs hown hr h1 hbytes h63 hbase
  unfold Oper.wp execOp
  simp only [ho, resolve, invoke, builtin, Sem.run_bind, Sem.run_pure, Result.andThen_ok, List.map_toArray, List.map_cons, List.map_nil, hs, hx, hrun]
  exact hK _ _ (h A' c' w' h2 h3)
end
/-- An append writes to its own row alone: what lay below 'base0' stands. -/
theorem Went.below {w w' W : World} {base base0 : Nat} {e : TypeId} {size : Nat} {A A' : Option Addr} {n c m c' : Nat} {xs : List Value} (hq : Went w w' A n c m A' c') (h : Row w base e size A n c xs) (hbel : Below base0 W w)
    (hb : base0 ≤ base) (hs : base0 ≤ w.heap.size) : Below base0 W w' := by
  refine hbel.grown hq.grown hs fun k hk => ?_
  rcases Nat.eq_zero_or_pos c with hc | hc
  · simp [wrote, hc] at hk
  · obtain ⟨g, cur, rfl, hg', _⟩ := h.2.2.2 hc
    rw [wrote, if_neg (by omega)] at hk
    simp at hk
    omega
end Go.Proofs.Ytbphoilfiahnpaa
