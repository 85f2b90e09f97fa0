/-
  Byte slices: what it means that a slice reads as a list of bytes; conversions, makes and appends of byte slices.
-/
import Derived.Test.YtbphoilfiahnpaaLib
import Derived.Test.YtbphoilfiahnpaaRows
import Derived.Laws.BytesString
import Derived.Laws.BitsAllLaws
namespace Go.Proofs.Ytbphoilfiahnpaa
open Go.RowKit
set_option linter.unusedVariables false

/-- A byte as a value. -/
def b8 (x : UInt8) : Value := .int .u8 (x.toNat : Int)
theorem b8_def (x : UInt8) : b8 x = .int .u8 (x.toNat : Int) := rfl
theorem b8_one (xs : List UInt8) : ∀ u ∈ xs.map b8, u.oneCell' = true := by
  intro u hu
  obtain ⟨x, _, rfl⟩ := List.mem_map.1 hu
  rfl

theorem xor8 (x y : UInt8) : bits .xor .u8 (x.toNat : Int) (y.toNat : Int) = ((x ^^^ y).toNat : Int) := by
  rw [u8_xor_nat _ _ (UInt8.toNat_lt x) (UInt8.toNat_lt y), UInt8.toNat_xor]
theorem or8 (x y : UInt8) : bits .or .u8 (x.toNat : Int) (y.toNat : Int) = ((x ||| y).toNat : Int) := by
  rw [u8_or_nat _ _ (UInt8.toNat_lt x) (UInt8.toNat_lt y), UInt8.toNat_or]
theorem b8_inj {x y : UInt8} (h : b8 x = b8 y) : x = y := by
  simp only [b8, Value.int.injEq, true_and] at h
  exact UInt8.toNat_inj.1 (by omega)

/-- 'The slice .slice A n c reads as the bytes bs; its array lies below block B.' -/
def SlB (w : World) (B : Nat) (A : Option Addr) (n c : Nat) (bs : List UInt8) : Prop := Sl w B 1 A n c (bs.map b8)
/-- 'The slice .slice A n c is the call's own and holds the bytes bs.' -/
def OwB (w : World) (base : Nat) (A : Option Addr) (n c : Nat) (bs : List UInt8) : Prop := Row w base 5 1 A n c (bs.map b8)

section
variable {w w' : World} {B B' base : Nat} {A : Option Addr} {n c : Nat} {bs : List UInt8}
theorem SlB.len (h : SlB w B A n c bs) : bs.length = n := by have := h.1; simpa using this
theorem SlB.le (h : SlB w B A n c bs) : n ≤ c := h.2.1
theorem SlB.cap (h : SlB w B A n c bs) : c ≤ maxLen := h.2.2.1
theorem SlB.mx (h : SlB w B A n c bs) : n ≤ 9223372036854775807 := by have := Sl.le h; simpa [maxLen] using this
theorem SlB.keep (h : SlB w B A n c bs) (hk : ∀ p : Addr, p.block < B → w'.cell? p = w.cell? p) : SlB w' B A n c bs := Sl.keep h hk
theorem SlB.more (h : SlB w B A n c bs) (hB : B ≤ B') : SlB w B' A n c bs := Sl.more h hB
theorem SlB.below (h : SlB w B A n c bs) (hb : Below B w w') : SlB w' B A n c bs := Sl.below h hb
theorem SlB.drewN (h : SlB w B A n c bs) (k : Nat) : SlB (w.drewN k) B A n c bs := h
theorem SlB.nil (w : World) (B : Nat) (A : Option Addr) : SlB w B A 0 0 [] := Sl.nil _ _ _ _
/-- Where there is room there is an address. -/
theorem SlB.at_ (h : SlB w B A n c bs) (hc : 0 < c) : ∃ b off, A = some ⟨b, off, none⟩ ∧ b < B ∧ (∀ j u, bs[j]? = some u → w.cell? ⟨b, off + j, none⟩ = some (.int .u8 (u.toNat : Int))) := by
  obtain ⟨b, off, e, hb, hj⟩ := h.2.2.2 hc
  exact ⟨b, off, e, hb, fun j u hu => hj j _ (by simp [hu, b8_def])⟩
theorem SlB.cut (h : SlB w B A n c bs) {lo hi : Nat} (hl : lo ≤ hi) (hh : hi ≤ n) :
    SlB w B (if c = lo then A else A.map (·.add lo)) (hi - lo) (c - lo) ((bs.drop lo).take (hi - lo)) := by
  have := Sl.cut h hl hh
  simpa [SlB, List.map_drop, List.map_take] using this
theorem SlB.trim (h : SlB w B A n c bs) {k : Nat} (hk : k ≤ n) : SlB w B A k c (bs.take k) := by
  have := h.cut (Nat.zero_le k) hk
  rcases Nat.eq_zero_or_pos c with hc | hc
  · subst hc
    simpa using this
  · rw [if_neg (by omega)] at this
    have e : A.map (·.add 0) = A := by cases A <;> simp [Addr.add]
    rw [e] at this
    simpa using this
theorem SlB.tail (h : SlB w B A n c bs) {lo : Nat} (hl : lo ≤ n) :
    SlB w B (if c = lo then A else A.map (·.add lo)) (n - lo) (c - lo) (bs.drop lo) := by
  have := h.cut hl (Nat.le_refl _)
  rw [List.take_of_length_le (by simp [h.len])] at this
  exact this

theorem OwB.len (h : OwB w base A n c bs) : bs.length = n := by have := h.1; simpa using this
theorem OwB.sl (h : OwB w base A n c bs) : SlB w w.heap.size A n c bs := Row.sl h
theorem OwB.nil (w : World) (base : Nat) (A : Option Addr) : OwB w base A 0 0 [] := Row.nil _ _ _ _ _
theorem OwB.below (h : OwB w base A n c bs) (hb : Below w.heap.size w w') : OwB w' base A n c bs := Row.below h hb

theorem SlB.read {P : Program} (h : SlB w B A n c bs) : (Conv.bytesToString (.slice A n c)).run P w = .ok (.string ⟨bs.toArray⟩) w := by
  have fold : ∀ (l : List UInt8) (r : ByteArray), List.foldl (fun (r : ByteArray) (n : Int) => r.push (UInt8.ofNat n.toNat)) r (l.map fun x => (x.toNat : Int)) = ⟨r.data ++ l.toArray⟩ := by
    intro l
    induction l with
    | nil => intro r; simp
    | cons x l ih =>
      intro r
      simp only [List.map_cons, List.foldl_cons, ih]
      simp [ByteArray.push]
  rcases Nat.eq_zero_or_pos n with hn | hn
  · obtain rfl : bs = [] := List.eq_nil_of_length_eq_zero (by rw [h.len, hn])
    subst hn
    cases A with
    | none => rfl
    | some a => rw [run_bytesToString w a 0 c [] (by simp [loadCells, loadCellsFrom])]; rfl
  · obtain ⟨b, off, rfl, _, hj⟩ := h.2.2.2 (by have := h.2.1; omega)
    rw [run_bytesToString w ⟨b, off, none⟩ n c (bs.map fun x => (x.toNat : Int)), fold]
    · simp
    · have := run_loadCells_list (P := P) w ⟨b, off, none⟩ (bs.map b8) (fun j v hv => by
        rw [Addr.add_lit]
        exact hj j v hv)
      simp only [List.length_map, h.len] at this
      rw [this]
      congr 2
      simp only [List.map_map]
      rfl
theorem SlB.str (h : SlB w B A n c bs) :
    (convert 31 9 (.slice A n c)).run Try.prog w = .ok (.string ⟨bs.toArray⟩) w := by
  rw [run_convert_bytes_string w _ _ _ A n c Try.underlying31 Try.underlying5 Try.underlying9]
  exact h.read
end

theorem bytes_info : (Try.prog.info? 5).map (fun i => (i.zero, i.size, i.bytes)) = some (some (.int .u8 0), 1, 1) := by kernel_rfl
theorem bytes_elem : Try.prog.elem 31 = 5 := by kernel_rfl

def zeros8 (n : Nat) : Array Value := Array.replicate n (.int .u8 0)
theorem size_zeros8 (n : Nat) : (zeros8 n).size = n := by simp [zeros8]
theorem zeros8_list (n : Nat) : (zeros8 n).toList = (List.replicate n (0 : UInt8)).map b8 := by
  simp [zeros8, b8_def]

/-- 'make([]byte, l, c)'. -/
theorem run_make8 (l c : Nat) (L C : Int) (hL : L = l) (hC : C = c) (hlc : l ≤ c) (hb : c ≤ 281474976710656) (w : World) :
    (Instr.makeSlice 31 (.int .i64 L) (.int .i64 C)).run Try.prog w = .ok (.slice (some ⟨w.heap.size, 0, none⟩) l c) (w.alloc (.cells (zeros8 c) 5)) := by
  obtain ⟨i0, hi, hz0, hz1, hz2⟩ := info_parts bytes_info
  subst hL hC
  have hr := run_make_rowN (P := Try.prog) 31 5 i0 _ Try.underlying31 hi hz0 .i64 .i64 l c hlc (by rw [hz2]; omega) (by omega) w
  rw [hr, hz1]
  have e : madeCells (Value.cells (.int .u8 0)) (c * 1) = zeros8 c := ?_
  · rw [e]
  apply Array.ext_getElem?
  intro k
  simp [madeCells, zeros8, Value.cells, Nat.mod_one]
  by_cases h : k < c <;> simp [h]

theorem wpList_append8 {ops : Array Oper} {rest : List Oper} {o : Oper} {a : Act} {Q : Exit → Act → World → Prop} {w : World} (hgd : o.guard = none) (s x : Operand)
    (ho : o.op = .call { callee := .builtin .append, args := #[s, x], argTypes := #[31, 31] })
    {base : Nat} {A : Option Addr} {n c : Nat} {xs : List UInt8} (hs : a.eval s = .slice A n c) (hown : OwB w base A n c xs)
    {B : Nat} {A2 : Option Addr} {m c2 : Nat} {news : List UInt8} (hx : a.eval x = .slice A2 m c2) (hr : SlB w B A2 m c2 news)
    (hbytes : n + m ≤ 140737488355328) (hbase : base ≤ w.heap.size) (k : Nat) (hk : n + m = k)
    (h : ∀ A' c' w', OwB w' base A' k c' (xs ++ news) → Went w w' A n c m A' c' → wpList Try.prog ops Q rest (a.put o.dst (.slice A' k c')) w') :
    wpList Try.prog ops Q (o :: rest) a w := by
  subst hk
  obtain ⟨i0, hi, hz0, hz1, hz2⟩ := info_parts bytes_info
  refine wpList_append_row hgd s x _ ho Try.underlying31 hi hz0 hz1 hz2 rfl hs hown hx hr (b8_one _) (by omega) (by simp only [maxLen]; omega) hbase fun A' c' w' h1 h2 => h A' c' w' ?_ h2
  rw [OwB, List.map_append]
  exact h1

theorem SlB.new (w : World) (cur : Array Value) (bs : List UInt8) (m : Nat) {B : Nat} (hB : w.heap.size < B) (hm : bs.length = m) (hx : m ≤ maxLen) (hc : cur.toList = bs.map b8) :
    SlB (w.alloc (.cells cur 5)) B (some ⟨w.heap.size, 0, none⟩) m m bs := by
  refine ⟨by simpa using hm, Nat.le_refl _, hx, fun _ => ⟨w.heap.size, 0, rfl, hB, fun j u hu => ?_⟩⟩
  rw [(Blk.new w 5 cur).cell, Nat.zero_add, ← Array.getElem?_toList, hc]
  exact hu
theorem SlB.alloc {w : World} {B : Nat} {A : Option Addr} {n c : Nat} {bs : List UInt8} (h : SlB w B A n c bs) (hB : B ≤ w.heap.size) (o : Obj) : SlB (w.alloc o) B A n c bs :=
  h.keep fun p hp => World.cell?_alloc_lt w o p (by omega)
theorem OwB.new (w : World) (base c : Nat) (hb : base ≤ w.heap.size) (hc : c ≤ maxLen) : OwB (w.alloc (.cells (zeros8 c) 5)) base (some ⟨w.heap.size, 0, none⟩) 0 c [] := by
  have := Row.new w base 5 1 (zeros8 c) 0 c hb (Nat.zero_le _) hc (by simp [size_zeros8])
  simpa [OwB] using this
theorem OwB.full (w : World) (base n : Nat) (hb : base ≤ w.heap.size) (hn : n ≤ maxLen) : OwB (w.alloc (.cells (zeros8 n) 5)) base (some ⟨w.heap.size, 0, none⟩) n n (List.replicate n 0) := by
  have := Row.new w base 5 1 (zeros8 n) n n hb (Nat.le_refl _) hn (by simp [size_zeros8])
  rw [zeros8_list, List.take_of_length_le (by simp)] at this
  exact this
theorem OwB.lit (w : World) (base : Nat) (cur : Array Value) (bs : List UInt8) (m : Nat) (hb : base ≤ w.heap.size) (hm : bs.length = m) (hx : m ≤ maxLen) (hc : cur.toList = bs.map b8) :
    OwB (w.alloc (.cells cur 5)) base (some ⟨w.heap.size, 0, none⟩) m m bs := by
  have := Row.new w base 5 1 cur m m hb (Nat.le_refl _) hx (by rw [← Array.length_toList, hc]; simpa using hm)
  rw [hc, List.take_of_length_le (by simp [hm])] at this
  exact this
theorem OwB.alloc {w : World} {base : Nat} {A : Option Addr} {n c : Nat} {bs : List UInt8} (h : OwB w base A n c bs) (o : Obj) : OwB (w.alloc o) base A n c bs := Row.alloc h o
theorem OwB.trim {w : World} {base : Nat} {A : Option Addr} {n c : Nat} {bs : List UInt8} (h : OwB w base A n c bs) {k : Nat} (hk : k ≤ n) : OwB w base A k c (bs.take k) := by
  have := Row.trim h hk
  rw [Nat.mul_one, ← List.map_take] at this
  exact this

/-- A cut 's[lo:]', its address under one name. -/
theorem SlB.tailRun {w : World} {B : Nat} {A : Option Addr} {n c : Nat} {bs : List UInt8} (h : SlB w B A n c bs) {lo : Nat} (hl : lo ≤ n) :
    ∃ A2, SlB w B A2 (n - lo) (c - lo) (bs.drop lo) ∧ ∀ W, (Instr.sliceAt 31 (.slice A n c) (some (.int .i64 (lo : Int))) none none).run Try.prog W = .ok (.slice A2 (n - lo) (c - lo)) W := by
  refine ⟨_, h.tail hl, fun W => ?_⟩
  have he : Try.prog.underlying 31 = some (.slice (Try.prog.elem 31)) := by rw [bytes_elem]; exact Try.underlying31
  have hs : (sizeOf (Try.prog.elem 31)).run Try.prog W = .ok 1 W := by rw [bytes_elem]; kernel_rfl
  rw [run_sliceAt_slice W _ _ _ _ _ he, run_slice_l W _ A n c he .i64 lo (by omega) (by omega), hs]
  simp [Result.andThen, sliced]
end Go.Proofs.Ytbphoilfiahnpaa
