/-
  TreeBinds: pairs of digests; two blocks of one type that a drawn region makes; how deep a node is (printed by wip/gen_bindsc.py).
-/
import Derived.Test.YtdifepfplfkfoaaBindsLaw
import Derived.Test.YtdifepfplfkfoaaVerify
import Derived.Test.YtdifepfplfkfoaaRelJ
import Derived.Test.YtdifepfplfkfoaaRelS
namespace Go.Proofs.Ytdifepfplfkfoaa
open Go.RowKit Go.Shelf
set_option linter.unusedVariables false
set_option linter.unusedSimpArgs false
set_option maxRecDepth 100000

theorem aggPair : AggT Try.prog 62 64 := ⟨⟨_, Try.underlying62, rfl⟩, by kernel_rfl⟩
theorem zeroPair : (Try.prog.info? 62).bind (·.zero) = some (.agg (arr8 (z8' 64))) := by kernel_rfl
theorem buildPair (a b : List UInt8) (ha : a.length = 32) (hb : b.length = 32) (w : World) : (Instr.build 62 #[(0, .agg (arr8 a)), (1, .agg (arr8 b))]).run Try.prog w = .ok (.agg (arr8 (a ++ b))) w := by
  match a, ha with
  | [a0, a1, a2, a3, a4, a5, a6, a7, a8, a9, a10, a11, a12, a13, a14, a15, a16, a17, a18, a19, a20, a21, a22, a23, a24, a25, a26, a27, a28, a29, a30, a31], _ =>
    match b, hb with
    | [b0, b1, b2, b3, b4, b5, b6, b7, b8, b9, b10, b11, b12, b13, b14, b15, b16, b17, b18, b19, b20, b21, b22, b23, b24, b25, b26, b27, b28, b29, b30, b31], _ => (show _ = _; kernel_rfl)
theorem guardPair : Try.prog.eqGuardType Try.prog.depth 62 = false := by kernel_rfl
theorem size44 (w : World) : (sizeOf 28).run Try.prog w = .ok 32 w := by
  obtain ⟨i0, hi, hz⟩ : ∃ i, Try.prog.info? 28 = some i ∧ (i.size, i.bytes) = (32, 32) := by
    have h := sums_info
    cases hh : Try.prog.info? 28 with
    | none => rw [hh] at h; cases h
    | some i => rw [hh] at h; exact ⟨i, rfl, by simpa using h⟩
  simp only [Prod.mk.injEq] at hz
  simp [sizeOf, typeInfo, hi, hz.1]
theorem part_arr {P : Program} {e b : TypeId} (he : P.underlying e = some (.array 32 b)) (hsz : ∀ w, (sizeOf e).run P w = .ok 32 w) (xs : List UInt8) (i : Nat) (hx : xs.length = 2 * 32) (hi : i < 2) (w : World) : (part e (arr8 xs) (i * 32)).run P w = .ok (.agg (arr8 (elt xs i))) w := by
  have e1 : (arr8 xs).extract (i * 32) (i * 32 + 32) = arr8 (elt xs i) := by
    apply Array.ext_getElem?
    intro k
    simp only [Array.getElem?_extract, arr8, elt, List.getElem?_toArray, List.getElem?_map, List.getElem?_take, List.getElem?_drop, List.size_toArray, List.length_map, hx]
    by_cases hk : k < 32
    · rw [if_pos (by omega), if_pos hk, Nat.mul_comm 32 i]
    · rw [if_neg (by omega), if_neg hk]; rfl
  have hs := hsz w
  simp [part, isAgg, run_underlying he, hs, e1]
theorem pair_beq {xs ys : List UInt8} (hx : xs.length = 2 * 32) (hy : ys.length = 2 * 32) : (xs == ys) = ((elt xs 0 == elt ys 0) && (elt xs 1 == elt ys 1)) := by
  rw [Bool.eq_iff_iff, Bool.and_eq_true, beq_iff_eq, beq_iff_eq, beq_iff_eq]
  refine ⟨fun e => by rw [e]; exact ⟨rfl, rfl⟩, fun h => elts_eq hx hy fun j hj => ?_⟩
  rcases (show j = 0 ∨ j = 1 by omega) with rfl | rfl
  · exact h.1
  · exact h.2
theorem run_equalIn_pair {P : Program} {t e b : TypeId} (ht : P.underlying t = some (.array 2 e)) (he : P.underlying e = some (.array 32 b)) (hb : P.underlying b = some (.int .u8)) (hsz : ∀ w, (sizeOf e).run P w = .ok 32 w) (hs1 : ∀ w, (sizeOf b).run P w = .ok 1 w) (d : Nat) (xs ys : List UInt8) (hx : xs.length = 2 * 32) (hy : ys.length = 2 * 32) (w : World) : (Op.equalIn (d + 3) t (.agg (arr8 xs)) (.agg (arr8 ys))).run P w = .ok (xs == ys) w := by
  have pe0 : ∀ i, i < 2 → (Op.equalIn (d + 2) e (.agg (arr8 (elt xs i))) (.agg (arr8 (elt ys i)))).run P w = .ok (elt xs i == elt ys i) w := fun i hi =>
    run_equalIn_arr w 0 (fun x : UInt8 => (x.toNat : Int)) (fun x y => by rw [Bool.eq_iff_iff]; simp [← UInt8.toNat_inj]; omega) .u8 d e b 32 he hb hs1 _ _ (len_elt hx hi) (len_elt hy hi)
  have e1 : (xs == ys) = (List.range' 0 2 1).all fun i => elt xs i == elt ys i := by
    rw [pair_beq hx hy]
    simp [List.range']
  rw [e1, Op.equalIn]
  simp only [Sem.run_bind, run_underlying ht, Result.andThen_ok, hsz, Std.Legacy.Range.forIn_eq_forIn_range', Std.Legacy.Range.size, Nat.sub_zero, Nat.add_sub_cancel, Nat.div_one]
  have hl : ∀ i ∈ List.range' 0 2 1, i < 2 := fun i hi => by simpa using (List.mem_range'_1.1 hi).2
  clear e1
  generalize List.range' 0 2 1 = l at hl ⊢
  induction l with
  | nil => simp
  | cons i l ih =>
    have hi : i < 2 := hl i (by simp)
    have px := part_arr he hsz xs i hx hi w
    have py := part_arr he hsz ys i hy hi w
    have pe := pe0 i hi
    simp only [List.forIn_cons, Sem.run_bind, px, py, pe, Result.andThen_ok, List.all_cons]
    cases hb : (elt xs i == elt ys i)
    · simp
    · simp only [Bool.not_true, Bool.false_eq_true, if_false, Sem.run_pure, Result.andThen_ok, Bool.true_and]
      exact ih fun j hj => hl j (by simp [hj])
theorem eqPair (xs ys : List UInt8) (hx : xs.length = 2 * 32) (hy : ys.length = 2 * 32) (r : Bool) (hr : (xs == ys) = r) (w : World) : (Op.equalIn 10000 62 (.agg (arr8 xs)) (.agg (arr8 ys))).run Try.prog w = .ok r w := by
  rw [← hr]
  exact run_equalIn_pair Try.underlying62 Try.underlying28 Try.underlying5 size44 size1 9997 xs ys hx hy w
/-- A store of a digest into a pair. -/
theorem wpList_storeP {ops : Array Oper} {rest : List Oper} {o : Oper} {a : Act} {Q : Exit → Act → World → Prop} {w : World} (hw : Region.wanted o (yielded ops a.tmps) = true) (T : TypeId) (p x : Operand) (ho : o.op = .store T p x) (g i : Nat) (hp : a.eval p = .pointer (some ⟨g, i * 32, none⟩)) (s : List UInt8) (hx : a.eval x = .agg (arr8 s)) (hT : AggT Try.prog T 32) (hs : s.length = 32)
    {xs : List UInt8} (hb : Blk w g 62 (arr8 xs)) (hl : xs.length = 2 * 32) (hi : i < 2)
    (hk : ∀ w', Blk w' g 62 (arr8 (putS xs i s)) → w.grownBy w' (some g) → w'.heap.size = w.heap.size → wpList Try.prog ops Q rest (a.put o.dst undef) w') : wpList Try.prog ops Q (o :: rest) a w :=
  wpList_store_agg hw T p x ho g (i * 32) hp (s.map b8) hx ((by simp [hs] : (s.map b8).length = 32) ▸ hT) (by simp [hs]) 62 (arr8 xs) hb (by rw [List.length_map, size_arr8, hl, hs]; omega) (b8_one _) fun w' h1 h2 h3 => hk w' (by
    rw [splice8] at h1
    rw [putS, Nat.mul_comm 32 i, hs] at *
    exact h1) h2 h3
theorem pair_cell {w : World} {g : Nat} {xs : List UInt8} (hb : Blk w g 62 (arr8 xs)) (hl : xs.length = 2 * 32) (i : Nat) (hi : i < 2) : ∀ j u, (arr8 (elt xs i))[j]? = some u → w.cell? ⟨g, i * 32 + j, none⟩ = some u := fun j u hu => by
  rw [hb.cell]
  simp only [arr8, elt, List.getElem?_toArray, List.getElem?_map, List.getElem?_take, List.getElem?_drop] at hu ⊢
  split at hu
  · rw [Nat.mul_comm i 32]; exact hu
  · simp at hu
/-! ## Two new blocks of one type -/
def J2 (w0 : World) (T : TypeId) (z c : Array Value) (a b s : Nat) (l : Nat → Bool) (u : Nat → Value) (W : World) : Prop :=
  Below w0.heap.size w0 W ∧ (l s = true → l a = true ∧ l b = true) ∧ (l a = true → ∃ g, u a = .pointer (some ⟨g, 0, none⟩) ∧ w0.heap.size ≤ g ∧ Blk W g T (if l s = true then c else z)) ∧ (l b = true → ∃ g, u b = .pointer (some ⟨g, 0, none⟩) ∧ w0.heap.size ≤ g ∧ Blk W g T z) ∧ (l a = true → l b = true → u a ≠ u b)
section
variable {w0 W W' : World} {T : TypeId} {z c : Array Value} {a b s : Nat} {l l' : Nat → Bool} {u u' : Nat → Value}
theorem J2.start (hw : Below w0.heap.size w0 W) : J2 w0 T z c a b s (fun _ => false) u W := ⟨hw, (fun h => by cases h), (fun h => by cases h), (fun h => by cases h), (fun h => by cases h)⟩
theorem J2.step (h : ∀ i ∈ [a, b, s], l' i = l i ∧ u' i = u i) (hb : Below W.heap.size W W') (hJ : J2 w0 T z c a b s l u W) : True ∧ J2 w0 T z c a b s l' u' W' := by
  obtain ⟨e1, e2⟩ := h a (by simp)
  obtain ⟨e3, e4⟩ := h b (by simp)
  obtain ⟨e5, _⟩ := h s (by simp)
  obtain ⟨h0, h1, h2, h3, h4⟩ := hJ
  unfold J2
  rw [e1, e2, e3, e4, e5]
  refine ⟨trivial, h0.trans (hb.mono h0.size), h1, fun ha => ?_, fun hb' => ?_, h4⟩
  · obtain ⟨g, q1, q2, q3⟩ := h2 ha
    exact ⟨g, q1, q2, q3.below hb q3.lt⟩
  · obtain ⟨g, q1, q2, q3⟩ := h3 hb'
    exact ⟨g, q1, q2, q3.below hb q3.lt⟩
theorem ptr_ne {g h : Nat} (e : g ≠ h) : (Value.pointer (some ⟨g, 0, none⟩)) ≠ .pointer (some ⟨h, 0, none⟩) := fun x => by
  simp only [Value.pointer.injEq, Option.some.injEq, Addr.mk.injEq, and_true] at x
  exact e x
theorem J2.alA (hab : a ≠ b) (hsa : s ≠ a) (hsb : s ≠ b) (hJ : J2 w0 T z c a b s l u W) (hn : l a = false) : J2 w0 T z c a b s (upB l a) (upV u a (.pointer (some ⟨W.heap.size, 0, none⟩))) (W.alloc (.cells z T)) := by
  obtain ⟨h0, h1, h2, h3, h4⟩ := hJ
  have hs : l s = false := by
    cases hh : l s with
    | false => rfl
    | true => rw [hn] at h1; exact absurd (h1 hh).1 (by simp)
  have ea : upB l a a = true := by simp [upB]
  have eb : upB l a b = l b := by simp [upB, hab.symm]
  have es : upB l a s = false := by simp [upB, hsa, hs]
  have va : upV u a (.pointer (some ⟨W.heap.size, 0, none⟩)) a = .pointer (some ⟨W.heap.size, 0, none⟩) := by simp [upV]
  have vb : upV u a (.pointer (some ⟨W.heap.size, 0, none⟩)) b = u b := by simp [upV, hab.symm]
  unfold J2
  rw [ea, eb, es, va, vb]
  refine ⟨h0.alloc h0.size _, (fun h => by cases h), fun _ => ⟨_, rfl, h0.size, by rw [if_neg (by simp)]; exact Blk.new _ _ _⟩, fun hb => ?_, fun _ hb => ?_⟩
  · obtain ⟨g, q1, q2, q3⟩ := h3 hb
    exact ⟨g, q1, q2, q3.alloc _⟩
  · obtain ⟨g, q1, q2, q3⟩ := h3 hb
    rw [q1]
    exact ptr_ne (fun e => by have := q3.lt; omega)
theorem J2.alB (hab : a ≠ b) (hsa : s ≠ a) (hsb : s ≠ b) (hJ : J2 w0 T z c a b s l u W) (hn : l b = false) : J2 w0 T z c a b s (upB l b) (upV u b (.pointer (some ⟨W.heap.size, 0, none⟩))) (W.alloc (.cells z T)) := by
  obtain ⟨h0, h1, h2, h3, h4⟩ := hJ
  have hs : l s = false := by
    cases hh : l s with
    | false => rfl
    | true => rw [hn] at h1; exact absurd (h1 hh).2 (by simp)
  have ea : upB l b a = l a := by simp [upB, hab]
  have eb : upB l b b = true := by simp [upB]
  have es : upB l b s = l s := by simp [upB, hsb]
  have va : upV u b (.pointer (some ⟨W.heap.size, 0, none⟩)) a = u a := by simp [upV, hab]
  have vb : upV u b (.pointer (some ⟨W.heap.size, 0, none⟩)) b = .pointer (some ⟨W.heap.size, 0, none⟩) := by simp [upV]
  unfold J2
  rw [ea, eb, es, va, vb, hs]
  rw [hs] at h2
  refine ⟨h0.alloc h0.size _, (fun h => by cases h), fun ha => ?_, fun _ => ⟨_, rfl, h0.size, Blk.new _ _ _⟩, fun ha _ => ?_⟩
  · obtain ⟨g, q1, q2, q3⟩ := h2 ha
    exact ⟨g, q1, q2, q3.alloc _⟩
  · obtain ⟨g, q1, q2, q3⟩ := h2 ha
    rw [q1]
    exact ptr_ne (fun e => by have := q3.lt; omega)
theorem J2.st {g : Nat} {v : Value} (hsa : s ≠ a) (hsb : s ≠ b) (hJ : J2 w0 T z c a b s l u W) (ha : l a = true) (hb : l b = true) (hua : u a = .pointer (some ⟨g, 0, none⟩)) (hg : Blk W' g T c) (hgr : W.grownBy W' (some g)) : J2 w0 T z c a b s (upB l s) (upV u s v) W' := by
  obtain ⟨h0, h1, h2, h3, h4⟩ := hJ
  have ea : upB l s a = true := by simp [upB, hsa.symm, ha]
  have eb : upB l s b = true := by simp [upB, hsb.symm, hb]
  have es : upB l s s = true := by simp [upB]
  have va : upV u s v a = u a := by simp [upV, hsa.symm]
  have vb : upV u s v b = u b := by simp [upV, hsb.symm]
  obtain ⟨g', q1, q2, q3⟩ := h2 ha
  obtain ⟨k, r1, r2, r3⟩ := h3 hb
  rw [hua] at q1
  cases q1
  have hne := h4 ha hb
  rw [hua, r1] at hne
  have hkg : k ≠ g := fun e => hne (by rw [e])
  unfold J2
  rw [ea, eb, es, va, vb]
  refine ⟨h0.grown hgr h0.size (fun j hj => by cases hj; exact q2), fun _ => ⟨rfl, rfl⟩, fun _ => ⟨g, hua, q2, by rw [if_pos rfl]; exact hg⟩, fun _ => ⟨k, r1, r2, r3.grown hgr (by simpa using hkg)⟩, fun _ _ => by rw [hua, r1]; exact hne⟩
theorem J2.getA (hJ : J2 w0 T z c a b s l u W) (ha : l a = true) (hs : l s = false) : ∃ g, u a = .pointer (some ⟨g, 0, none⟩) ∧ Blk W g T z := by
  obtain ⟨h0, h1, h2, h3, h4⟩ := hJ
  obtain ⟨g, q1, q2, q3⟩ := h2 ha
  rw [if_neg (by rw [hs]; simp)] at q3
  exact ⟨g, q1, q3⟩
theorem J2.fin (hJ : J2 w0 T z c a b s l u W) (ha : l a = true) (hb : l b = true) (hs : l s = true) : ∃ g k, u a = .pointer (some ⟨g, 0, none⟩) ∧ u b = .pointer (some ⟨k, 0, none⟩) ∧ g ≠ k ∧ w0.heap.size ≤ g ∧ w0.heap.size ≤ k ∧ Blk W g T c ∧ Blk W k T z ∧ Below w0.heap.size w0 W := by
  obtain ⟨h0, h1, h2, h3, h4⟩ := hJ
  obtain ⟨g, q1, q2, q3⟩ := h2 ha
  obtain ⟨k, r1, r2, r3⟩ := h3 hb
  rw [if_pos hs] at q3
  have hne := h4 ha hb
  rw [q1, r1] at hne
  exact ⟨g, k, q1, r1, fun e => hne (by rw [e]), q2, r2, q3, r3, h0⟩
theorem J2.below (hJ : J2 w0 T z c a b s l u W) : Below w0.heap.size w0 W := hJ.1
end
theorem Det.laterT {c : Value} (_ : True) (v : Value) (w w' : World) (_ : True) (h : Det c v w) : Det c v w' := h
theorem Any.laterT (_ : True) (v : Value) (w w' : World) (_ : True) (h : Any v w) : Any v w' := h
theorem wp_norm {P : Program} {c : Code} {Q : Exit → Act → World → Prop} {a : Act} {w : World} (h : Code.wp P c (Exit.then (fun a' w' => Q .normal a' w') (fun _ _ _ => False)) a w) : Code.wp P c Q a w :=
  Code.wp_mono (fun e a' w' hh => by
    cases e with
    | normal => exact hh
    | _ => exact hh.elim) h
/-! ## What stays -/
/-- All blocks but these stay. -/
def Fr (gs : List Nat) (w w' : World) : Prop := w.heap.size ≤ w'.heap.size ∧ ∀ k, k < w.heap.size → k ∉ gs → w'.heap[k]? = w.heap[k]?
theorem Fr.below {gs : List Nat} {w w' : World} (h : Below w.heap.size w w') : Fr gs w w' := ⟨h.size, fun k hk _ => h.block k hk⟩
theorem Fr.trans {gs : List Nat} {w w' w2 : World} (h : Fr gs w w') (h' : Fr gs w' w2) : Fr gs w w2 := ⟨Nat.le_trans h.1 h'.1, fun k hk hn => (h'.2 k (Nat.lt_of_lt_of_le hk h.1) hn).trans (h.2 k hk hn)⟩
theorem Fr.of1 {w w' : World} {g : Nat} (h : w.grownBy w' (some g)) : Fr [g] w w' := ⟨h.size, fun k hk hn => h.block k hk (fun e => hn (by cases e; simp))⟩
theorem Fr.blk {gs : List Nat} {w w' : World} (h : Fr gs w w') {g : Nat} {t : TypeId} {cs : Array Value} (hb : Blk w g t cs) (hn : g ∉ gs) : Blk w' g t cs := (h.2 g hb.lt hn).trans hb
theorem Row.frm {w w' : World} {base size : Nat} {e : TypeId} {A : Option Addr} {n c : Nat} {xs : List Value} {L : List Nat} (h : Row w base e size A n c xs) (hf : Fr L w w') (hL : ∀ g, base ≤ g → g < w.heap.size → g ∉ L) : Row w' base e size A n c xs := by
  refine ⟨h.1, h.2.1, h.2.2.1, fun hc => ?_⟩
  obtain ⟨g, cur, e1, hg, hb, hs, ht⟩ := h.2.2.2 hc
  exact ⟨g, cur, e1, hg, hf.blk hb (hL g hg hb.lt), hs, ht⟩
theorem Row.frl {w w' : World} {base size : Nat} {e : TypeId} {A : Option Addr} {n c : Nat} {xs : List Value} {L : List Nat} (h : Row w base e size A n c xs) (hf : Fr L w w') (hA : 0 < c → ∀ g, A = some ⟨g, 0, none⟩ → g ∉ L) : Row w' base e size A n c xs := by
  refine ⟨h.1, h.2.1, h.2.2.1, fun hc => ?_⟩
  obtain ⟨g, cur, e1, hg, hb, hs, ht⟩ := h.2.2.2 hc
  exact ⟨g, cur, e1, hg, hf.blk hb (hA hc g e1), hs, ht⟩
/-! ## What stays while a range over a func runs -/
def Stay (w : World) (L : List (Nat × TypeId × Array Value)) (O : Nat → Prop) (W : World) : Prop := (∀ p ∈ L, ¬ O p.1 ∧ Blk W p.1 p.2.1 p.2.2) ∧ Below w.heap.size w W
section
variable {w : World} {L : List (Nat × TypeId × Array Value)} {O O' : Nat → Prop} {W W' : World}
theorem Stay.calm {B : Nat} (h : Stay w L O W) (hc : Calm B W W') (hB : w.heap.size ≤ B) : Stay w L O W' := ⟨fun p hp => ⟨(h.1 p hp).1, hc.blk (h.1 p hp).2⟩, hc.below h.2 hB (Nat.le_refl _)⟩
theorem Stay.on (h : Stay w L O W) (hb : Below W.heap.size W W') : Stay w L O W' := ⟨fun p hp => ⟨(h.1 p hp).1, (h.1 p hp).2.below hb (h.1 p hp).2.lt⟩, h.2.trans (hb.mono h.2.size)⟩
theorem Stay.step (h : Stay w L O W) {g : Nat} (hg : W.grownBy W' (some g)) (ho : O g) (hw : w.heap.size ≤ g) : Stay w L O W' :=
  ⟨fun p hp => ⟨(h.1 p hp).1, (h.1 p hp).2.grown hg (fun e => (h.1 p hp).1 (by cases e; exact ho))⟩, h.2.grown hg h.2.size (fun k hk => by cases hk; exact hw)⟩
theorem Stay.own (h : Stay w L O W) (hO : ∀ k, O' k → W.heap.size ≤ k) : Stay w L O' W := ⟨fun p hp => ⟨fun e => by have := hO _ e; have := (h.1 p hp).2.lt; omega, (h.1 p hp).2⟩, h.2⟩
theorem Stay.snoc {g : Nat} {t : TypeId} {cs : Array Value} (h : Stay w L O W) (hn : ¬ O g) (hb : Blk W g t cs) : Stay w (L ++ [(g, t, cs)]) O W := ⟨fun p hp => by
  rcases List.mem_append.1 hp with hp | hp
  · exact h.1 p hp
  · rw [List.mem_singleton] at hp; subst hp; exact ⟨hn, hb⟩, h.2⟩
theorem Stay.far {g : Nat} (h : Stay w L O W) (hne : ∀ p ∈ L, p.1 ≠ g) (hw : w.heap.size ≤ g) (i : Nat) (v : Value) : Stay w L O (W.setCell ⟨g, i, none⟩ v) := ⟨fun p hp => ⟨(h.1 p hp).1, (h.1 p hp).2.far (hne p hp) _⟩, h.2.setCell (p := ⟨g, i, none⟩) hw _⟩
theorem Stay.imp {O2 : Nat → Prop} (h : Stay w L O W) (hO : ∀ p ∈ L, ¬ O2 p.1) : Stay w L O2 W := ⟨fun p hp => ⟨hO p hp, (h.1 p hp).2⟩, h.2⟩
theorem Stay.cell {g : Nat} {t : TypeId} {cs : Array Value} (h : Stay w L O W) (hp : (g, t, cs) ∈ L) (i : Nat) : W.cell? ⟨g, i, none⟩ = cs[i]? := (h.1 _ hp).2.cell i
end
theorem wp_at {P : Program} {C : Code} {Q : Exit → Act → World → Prop} {a : Act} {w : World} (h : ∀ a0, a0 = a → C.wp P Q a0 w) : C.wp P Q a w := h a rfl
theorem res_bool {P : Program} {w : World} {fn : Func} {p : Tmp} {ty : TypeId} (hr : fn.results = #[.cell p ty]) (tmps : Array Value) (g : Nat) (tb : TypeId) (b : Bool) (ht : P.underlying ty = some .bool)
    (hp : tmps.getD p undef = .pointer (some ⟨g, 0, none⟩)) (hb : Blk w g tb #[.bool b]) : (results fn tmps).run P w = .ok (.bool b) w := by
  have hp' : tmps[p]?.getD undef = .pointer (some ⟨g, 0, none⟩) := by simpa using hp
  have hc : w.cell? ⟨g, 0, none⟩ = some (.bool b) := by rw [hb.cell]; rfl
  simp [results, hr, hp', asAddr, loadVar, isAgg, run_underlying ht, hc]
theorem calm_heap {B k : Nat} {W W' : World} {o : Obj} (hc : Calm B W W') (hk : k < B) (h : W.heap[k]? = some o) : W'.heap[k]? = some o := by
  obtain ⟨row, hg, hr⟩ := hc
  exact (hg.block k (Array.getElem?_eq_some_iff.1 h).1 (fun e => by have := (hr k e.symm).1; omega)).trans h
/-- A region that writes one block: false ahead of it, true behind it. -/
def C24 (w0 : World) (T : TypeId) (g : Nat) (c c' : Array Value) (b : Bool) (w : World) : Prop := Fr [g] w0 w ∧ Blk w g T (if b = true then c' else c) ∧ Below g w0 w
theorem C24.start {w0 : World} {T : TypeId} {g : Nat} {c c' : Array Value} (h : Blk w0 g T c) : C24 w0 T g c c' false w0.drew := ⟨Fr.below (Below.refl _ _).drew, by rw [if_neg (by simp)]; exact h, (Below.refl _ _).drew⟩
theorem C24.step {w0 w w' : World} {T : TypeId} {g : Nat} {c c' : Array Value} {b : Bool} (h : C24 w0 T g c c' b w) (hb : Below w.heap.size w w') : True ∧ C24 w0 T g c c' b w' := ⟨trivial, h.1.trans (Fr.below hb), h.2.1.below hb h.2.1.lt, h.2.2.trans (hb.mono (Nat.le_of_lt h.2.1.lt))⟩
theorem C24.call {w0 w w' : World} {T : TypeId} {g : Nat} {c c' : Array Value} (h : C24 w0 T g c c' false w) (hk : Blk w' g T c') (hg : w.grownBy w' (some g)) : C24 w0 T g c c' true w' := ⟨h.1.trans (Fr.of1 hg), by rw [if_pos rfl]; exact hk, h.2.2.grown hg (Nat.le_of_lt h.2.1.lt) (fun k hk => by cases hk; exact Nat.le_refl _)⟩
theorem C24.was {w0 w : World} {T : TypeId} {g : Nat} {c c' : Array Value} (h : C24 w0 T g c c' false w) : Blk w g T c := by have := h.2.1; rwa [if_neg (by simp)] at this
theorem C24.now {w0 w : World} {T : TypeId} {g : Nat} {c c' : Array Value} (h : C24 w0 T g c c' true w) : Blk w g T c' := by have := h.2.1; rwa [if_pos rfl] at this
/-! ## How deep a node is -/
set_option maxHeartbeats 4000000 in
theorem level_c {w : World} : ∀ (d i : Nat), 2 ^ d ≤ i → i < 2 ^ (d + 1) → d ≤ 4 → Calls Try.prog 27 #[.int .i64 (i : Int)] w fun e w' => e = .returned (.int .i64 (d : Int)) ∧ Below w.heap.size w w' := by
  intro d i h1 h2 hd
  have hi32 : i < 32 := Nat.lt_of_lt_of_le h2 (Nat.pow_le_pow_right (by omega) (by omega : d + 1 ≤ 5))
  have H1 := Lib.hid h1
  have H2 := Lib.hid h2
  clear h1 h2
  go_enter Try.func27, Try.ntmps27
  go_wp2_with fail
  go_loopw [0, 3] (fun v0 v3 wr => ∃ j k : Nat, v0 = .int .i64 (j : Int) ∧ v3 = .int .i64 (k : Int) ∧ k ≤ d ∧ 2 ^ (d - k) ≤ j ∧ j < 2 ^ (d - k + 1) ∧ j < 32 ∧ Below w.heap.size w wr) (fun v0 _ _ => (intOf v0).toNat)
  case atStart => exact ⟨i, 0, rfl, rfl, by omega, by simpa using H1.out, by simpa using H2.out, hi32, Below.refl _ _⟩
  case round =>
    obtain ⟨j, k, rfl, rfl, hk, hj1, hj2, hj3, hw⟩ := hrel
    have hj0 : (0 : Int) ≤ (j : Int) := by omega
    have hk0 : (0 : Int) ≤ (k : Int) := by omega
    have hk9 : (k : Int) ≤ 4 := by omega
    have hj9 : (j : Int) < 32 := by omega
    have HJ1 := Lib.hid hj1
    have HJ2 := Lib.hid hj2
    clear hj1 hj2
    by_cases hkd : k = d
    · have hjj : ¬ (1 : Int) < (j : Int) := by have := HJ2.out; rw [hkd, Nat.sub_self] at this; omega
      go_wp2_with fail
      go_ret
      exact ⟨rfl, hw⟩
    · have hjj : (1 : Int) < (j : Int) := by
        have h := HJ1.out
        obtain ⟨m, hm⟩ : ∃ m, d - k = m + 1 := ⟨d - k - 1, by omega⟩
        rw [hm, Nat.pow_succ] at h
        have := Nat.two_pow_pos m
        omega
      obtain ⟨q, hq⟩ : ∃ q, q = j / 2 := ⟨_, rfl⟩
      have htd : ((j : Int)).tdiv 2 = (q : Int) := by rw [Int.tdiv_eq_ediv_of_nonneg (by omega), hq]; rfl
      have hed : (j : Int) / 2 = (q : Int) := by rw [hq]; rfl
      have hq0 : (0 : Int) ≤ (q : Int) := by omega
      have hq9 : (q : Int) < 32 := by omega
      have HQ := Lib.hid hq
      clear hq
      go_wp2_with fail
      obtain ⟨m, hm⟩ : ∃ m, d - k = m + 1 := ⟨d - k - 1, by omega⟩
      have hm2 : d - (k + 1) = m := by omega
      have h := HJ1.out
      have h' := HJ2.out
      have hq := HQ.out
      rw [hm] at h h'
      rw [Nat.pow_succ] at h
      rw [Nat.pow_succ] at h'
      exact ⟨⟨q, k + 1, by go_num, by go_num, by omega, by rw [hm2]; omega, by rw [hm2]; omega, by omega, hw⟩, by simp [intOf]; omega⟩
end Go.Proofs.Ytdifepfplfkfoaa
