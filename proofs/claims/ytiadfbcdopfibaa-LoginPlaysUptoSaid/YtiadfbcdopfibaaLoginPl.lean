/-
  login: the document's session beside the program's (printed by wip/gen_login16.py).
-/
import Derived.Test.YtiadfbcdopfibaaLoginRB
import Derived.Test.YtiadfbcdopfibaaAppK
import Derived.Test.YtiadfbcdopfibaaSame17
import Derived.Test.YtiadfbcdopfibaaOver
namespace Go.Proofs.Ytiadfbcdopfibaa
open Go.RowKit
set_option linter.unusedVariables false
set_option linter.unusedSimpArgs false
set_option maxRecDepth 100000

theorem slL_keep {w W : World} {B m c : Nat} {L : List Nat} {A : Option Addr} {ds : List UInt8} (h : SlB w B A m c ds) (hB : B ≤ w.heap.size) (hf : 0 < m → ∀ b off, A = some ⟨b, off, none⟩ → b ∉ L) (hk : Fr L w W) : SlB W B A m c ds := by
  refine ⟨h.1, h.2.1, h.2.2.1, fun hc => ?_⟩
  obtain ⟨b, off, e, hb, hj⟩ := h.2.2.2 hc
  refine ⟨b, off, e, hb, fun j u hu => ?_⟩
  have hl := h.1
  rcases Nat.eq_zero_or_pos m with h0 | h0
  · rw [h0, Nat.zero_mul] at hl
    rw [List.length_eq_zero_iff.1 hl] at hu
    simp at hu
  · exact (World.cell?_of_block (w := w) (a := ⟨b, off + j, none⟩) (hk.2 b (Nat.lt_of_lt_of_le hb hB) (hf h0 b off e))).trans (hj j u hu)
theorem Blk.ne {w : World} {g g' : Nat} {t t' : TypeId} {cs cs' : Array Value} (h : Blk w g t cs) (h' : Blk w g' t' cs') (ht : t ≠ t') : g ≠ g' := fun e => by
  subst e
  rw [Blk] at h h'
  rw [h] at h'
  simp only [Option.some.injEq, Obj.cells.injEq] at h'
  exact ht h'.2.1
theorem wrote_ne {w : World} {base size : Nat} {e : TypeId} {A : Option Addr} {n c : Nat} {xs : List Value} (h : Row w base e size A n c xs) {g : Nat} {t : TypeId} {cs : Array Value} (hb : Blk w g t cs) (ht : t ≠ e) : g ∉ (wrote A c).toList := fun hm => by
  rw [Option.mem_toList] at hm
  rcases Row.wrote_lt h with h1 | ⟨g', cur, h1, _, _, h2⟩
  · rw [h1] at hm; cases hm
  · rw [h1] at hm
    cases hm
    exact hb.ne h2 ht rfl
theorem wrote_low {w : World} {base size : Nat} {e : TypeId} {A : Option Addr} {n c : Nat} {xs : List Value} (h : Row w base e size A n c xs) : ∀ g ∈ (wrote A c).toList, base ≤ g ∧ g < w.heap.size := fun g hm => by
  rw [Option.mem_toList] at hm
  rcases Row.wrote_lt h with h1 | ⟨g', cur, h1, h2, h3, _⟩
  · rw [h1] at hm; cases hm
  · rw [h1] at hm; cases hm; exact ⟨h2, h3⟩
theorem Fr.ofWent {w w' : World} {A A' : Option Addr} {n c m c' : Nat} (h : Went w w' A n c m A' c') : Fr (wrote A c).toList w w' :=
  ⟨h.grown.size, fun k hk hn => h.grown.block k hk (fun e => hn (by rw [← e]; simp))⟩
theorem Fr.of1 {w w' : World} {g : Nat} (h : w.grownBy w' (some g)) : Fr [g] w w' := (Fr.below (Below.refl _ _)).grown h (.inl (by simp))
theorem Fr.wl {w w' : World} {A : Option Addr} {c : Nat} (h : w.grownBy w' (wrote A c)) : Fr (wrote A c).toList w w' :=
  ⟨h.size, fun k hk hn => h.block k hk (fun e => hn (by rw [← e]; simp))⟩
theorem Row.fr {w w' : World} {base size : Nat} {e : TypeId} {A : Option Addr} {n c : Nat} {xs : List Value} {L : List Nat} (h : Row w base e size A n c xs) (hf : Fr L w w') (hL : ∀ g ∈ (wrote A c).toList, g ∉ L) : Row w' base e size A n c xs := by
  refine ⟨h.1, h.2.1, h.2.2.1, fun hc => ?_⟩
  obtain ⟨g, cur, e1, hg, hb, hs, ht⟩ := h.2.2.2 hc
  exact ⟨g, cur, e1, hg, hf.blk hb (hL g (by rw [wrote, if_neg (by omega), e1]; simp)), hs, ht⟩
theorem Se.low {w w' : World} {base gs : Nat} {L : List Nat} {init : Int} {th ou ch : List UInt8} {st gr nx : Int} (h : Se w base gs init th ou st gr ch nx) (hL : ∀ g ∈ L, g < base) (hf : Fr L w w') : Se w' base gs init th ou st gr ch nx := by
  obtain ⟨tn, At, nt, ct, Ao, no, co, h1, h2, h3⟩ := h.cells
  have far : ∀ {A : Option Addr} {n c : Nat} {bs : List UInt8}, OwB w base A n c bs → OwB w' base A n c bs := fun {A n c bs} hr => Row.fr hr hf fun g hg hx => by
    have := (wrote_low hr g hg).1
    have := hL g hx
    omega
  exact ⟨⟨tn, At, nt, ct, Ao, no, co, hf.blk h1 (fun hx => by have := hL gs hx; have := h.hb; omega), far h2, far h3⟩, h.lch, h.hb⟩
theorem Se.nw {w : World} {base gs base2 n c : Nat} {A : Option Addr} {xs : List Value} {init : Int} {th ou ch : List UInt8} {st gr nx : Int} (h : Se w base gs init th ou st gr ch nx) (hr : Row w base2 58 36 A n c xs) : ∀ g ∈ [gs], g ∉ (wrote A c).toList := fun g hg => by
  obtain rfl := List.mem_singleton.1 hg
  obtain ⟨tn, At, nt, ct, Ao, no, co, h1, h2, h3⟩ := h.cells
  exact wrote_ne hr h1 (by decide)
/-! ## What came -/
def flat (cs : List Cv) : List Value := (cs.map Cv.row).flatten
/-- The frames that came, in a row of one's own; L: the blocks that are written. -/
structure Cm (w : World) (base2 : Nat) (A : Option Addr) (N C : Nat) (cs : List Cv) (L : List Nat) : Prop where
  row : Row w base2 58 36 A N C (flat cs)
  oks : ∀ v ∈ cs, v.ok w
  far : ∀ v ∈ cs, 0 < v.m → ∀ b off, v.A = some ⟨b, off, none⟩ → b ∉ L ∧ b ∉ (wrote A C).toList
section
variable {w w' : World} {base2 N C : Nat} {A : Option Addr} {cs : List Cv} {L : List Nat}
theorem Cm.below (h : Cm w base2 A N C cs L) (hb : Below w.heap.size w w') : Cm w' base2 A N C cs L :=
  ⟨Row.below h.row hb, fun v hv => ⟨((h.oks v hv).1.below hb).more hb.size, (h.oks v hv).2⟩, h.far⟩
theorem Cm.fr {L' : List Nat} (h : Cm w base2 A N C cs L) (hf : Fr L' w w') (hL : ∀ g ∈ L', g ∈ L) (hT : ∀ g ∈ L', g ∉ (wrote A C).toList) : Cm w' base2 A N C cs L :=
  ⟨Row.fr h.row hf fun g hg hx => hT g hx hg, fun v hv => ⟨(slL_keep (h.oks v hv).1 (Nat.le_refl _) (fun h0 b off e hb => (h.far v hv h0 b off e).1 (hL b hb)) hf).more hf.1, (h.oks v hv).2⟩, h.far⟩
theorem flat_snoc (cs : List Cv) (v : Cv) : flat (cs ++ [v]) = flat cs ++ v.row := by simp [flat]
theorem Cm.app {A' : Option Addr} {C' : Nat} {v : Cv} (h : Cm w base2 A N C cs L) (hv : v.ok w) (hrow : Row w' base2 58 36 A' (N + 1) C' (flat cs ++ v.row)) (hw : Went w w' A N C 1 A' C') (hvf : 0 < v.m → ∀ b off, v.A = some ⟨b, off, none⟩ → b ∉ L ∧ b ∉ (wrote A C).toList) : Cm w' base2 A' (N + 1) C' (cs ++ [v]) L := by
  have hf := Fr.ofWent hw
  have hall : ∀ x ∈ cs ++ [v], x.ok w ∧ (0 < x.m → ∀ b off, x.A = some ⟨b, off, none⟩ → b ∉ L ∧ b ∉ (wrote A C).toList) := fun x hx => by
    rcases List.mem_append.1 hx with hx | hx
    · exact ⟨h.oks x hx, h.far x hx⟩
    · obtain rfl := List.mem_singleton.1 hx
      exact ⟨hv, hvf⟩
  refine ⟨by rw [flat_snoc]; exact hrow, fun x hx => ⟨(slL_keep (hall x hx).1.1 (Nat.le_refl _) (fun h0 b off e => ((hall x hx).2 h0 b off e).2) hf).more hf.1, (hall x hx).1.2⟩, fun x hx h0 b off e => ⟨((hall x hx).2 h0 b off e).1, ?_⟩⟩
  rcases hw with ⟨_, rfl, rfl, _⟩ | ⟨_, rfl, _, _⟩
  · exact ((hall x hx).2 h0 b off e).2
  · have hs := (hall x hx).1.1
    obtain ⟨b', off', e', hb, _⟩ := hs.2.2.2 (Nat.lt_of_lt_of_le h0 hs.2.1)
    rw [e] at e'
    cases e'
    intro hm
    rw [Option.mem_toList, wrote] at hm
    split at hm
    · cases hm
    · simp at hm; omega
end
/-! ## What stays while a frame is put to the row -/
/-- All blocks but those of the document's session stay. -/
def KT (w w' : World) : Prop := w.heap.size ≤ w'.heap.size ∧ ∀ g t cs, Blk w g t cs → t ≠ 58 → t ≠ 55 → Blk w' g t cs
theorem KT.refl (w : World) : KT w w := ⟨Nat.le_refl _, fun _ _ _ h _ _ => h⟩
theorem KT.trans {w w' w2 : World} (h : KT w w') (h' : KT w' w2) : KT w w2 := ⟨Nat.le_trans h.1 h'.1, fun g t cs hb h1 h2 => h'.2 g t cs (h.2 g t cs hb h1 h2) h1 h2⟩
theorem KT.below {w w' : World} (h : Below w.heap.size w w') : KT w w' := ⟨h.size, fun g t cs hb _ _ => hb.below h hb.lt⟩
theorem KT.row {w w' : World} {base size : Nat} {A : Option Addr} {n c : Nat} {xs : List Value} (h : Row w base 58 size A n c xs) (hf : Fr (wrote A c).toList w w') : KT w w' := ⟨hf.1, fun g t cs hb h1 _ => hf.blk hb (wrote_ne h hb h1)⟩
theorem KT.ses {w w' : World} {gm : Nat} {cs : Array Value} (h : Blk w gm 55 cs) (hf : Fr [gm] w w') : KT w w' := ⟨hf.1, fun g t cs' hb _ h2 => hf.blk hb (by simpa using hb.ne h h2)⟩
theorem KT.own {w w' : World} {base n c : Nat} {A : Option Addr} {bs : List UInt8} (h : KT w w') (hr : OwB w base A n c bs) : OwB w' base A n c bs :=
  ⟨hr.1, hr.2.1, hr.2.2.1, fun hc => by
    obtain ⟨g, cur, e, hg, hb, hs, ht⟩ := hr.2.2.2 hc
    exact ⟨g, cur, e, hg, h.2 g _ cur hb (by decide) (by decide), hs, ht⟩⟩
theorem KT.se {w w' : World} {base gs : Nat} {init : Int} {th ou ch : List UInt8} {st gr nx : Int} (h : KT w w') (hs : Se w base gs init th ou st gr ch nx) : Se w' base gs init th ou st gr ch nx := by
  obtain ⟨tn, At, nt, ct, Ao, no, co, h1, h2, h3⟩ := hs.cells
  exact ⟨⟨tn, At, nt, ct, Ao, no, co, h.2 _ _ _ h1 (by decide) (by decide), h.own h2, h.own h3⟩, hs.lch, hs.hb⟩
theorem KT.step {w w' : World} {base : Nat} {o : Out} {v : Value} (h : KT w w') (hs : StepV w base o v) : StepV w' base o v := by
  rcases hs with ⟨ha, g, A, c, e, a1, a2, a3⟩ | ⟨ha, e⟩
  · exact .inl ⟨ha, g, A, c, e, a1, h.2 _ _ _ a2 (by decide) (by decide), h.own a3⟩
  · exact .inr ⟨ha, e⟩
theorem StepV.store {w w' : World} {base g : Nat} {o : Out} {v : Value} {cs : Array Value} (hs : StepV w base o v) (hb : Blk w g 42 cs) (hg : w.grownBy w' (some g)) : StepV w' base o v := by
  rcases hs with ⟨ha, g', A, c, e, a1, a2, a3⟩ | ⟨ha, e⟩
  · exact .inl ⟨ha, g', A, c, e, a1, a2.grown hg (by simpa using a2.ne hb (by decide)), row_gone2 a3 hb hg⟩
  · exact .inr ⟨ha, e⟩
/-- The row of one frame. -/
def RelN (B : Nat) (v : Cv) : Value → World → Prop := fun x w => ∃ g, x = .slice (some ⟨g, 0, none⟩) 1 1 ∧ B ≤ g ∧ Blk w g 58 v.row.toArray
def RelR (base2 N : Nat) (cs : List Cv) (L : List Nat) : Value → World → Prop := fun x w => ∃ A' C', x = .slice A' N C' ∧ Cm w base2 A' N C' cs L
def Le21 (base2 : Nat) (A : Option Addr) (C N : Nat) (cs : List Cv) (L : List Nat) (w w' : World) : Prop := Fr (wrote A C).toList w w' ∧ ∀ A4 C4, Cm w base2 A4 N C4 cs L → Cm w' base2 A4 N C4 cs L
section
variable {base2 N M C B : Nat} {A : Option Addr} {cs cs' : List Cv} {L : List Nat}
theorem Det.later21 {c : Value} (hl : ∀ g ∈ (wrote A C).toList, g < B) (x : Value) (w w' : World) (hb : Le21 base2 A C N cs L w w') (h : Det c x w) : Det c x w' := h
theorem Any.later21 (hl : ∀ g ∈ (wrote A C).toList, g < B) (x : Value) (w w' : World) (hb : Le21 base2 A C N cs L w w') (h : Any x w) : Any x w' := h
theorem RelN.later21 {v : Cv} (hl : ∀ g ∈ (wrote A C).toList, g < B) (x : Value) (w w' : World) (hb : Le21 base2 A C N cs L w w') (h : RelN B v x w) : RelN B v x w' := by
  obtain ⟨g, e, hg, hk⟩ := h
  exact ⟨g, e, hg, hb.1.blk hk (fun hx => by have := hl g hx; omega)⟩
theorem RelR.later21 (hl : ∀ g ∈ (wrote A C).toList, g < B) (x : Value) (w w' : World) (hb : Le21 base2 A C N cs L w w') (h : RelR base2 N cs L x w) : RelR base2 N cs L x w' := by
  obtain ⟨A', C', e, h⟩ := h
  exact ⟨A', C', e, hb.2 A' C' h⟩
end
/-- The region that puts a frame to the row: false ahead of it, true behind it. -/
structure C21 (w0 : World) (base2 gm : Nat) (bc : Array Value) (A : Option Addr) (N C : Nat) (cs : List Cv) (v : Cv) (L : List Nat) (b : Bool) (w : World) : Prop where
  kt : KT w0 w
  fr : Fr (wrote A C).toList w0 w
  bel : Below base2 w0 w
  bm : Blk w gm 55 bc
  ok : v.ok w
  cm : b = false → Cm w base2 A N C cs L
section
variable {w0 w w' : World} {base2 gm N C : Nat} {bc : Array Value} {A : Option Addr} {cs : List Cv} {v : Cv} {L : List Nat} {b : Bool}
theorem C21.size (h : C21 w0 base2 gm bc A N C cs v L b w) : w0.heap.size ≤ w.heap.size := h.fr.1
theorem C21.go (hB : base2 ≤ w0.heap.size) (h : C21 w0 base2 gm bc A N C cs v L b w) (hb : Below w.heap.size w w') : Le21 base2 A C (N + 1) (cs ++ [v]) L w w' ∧ C21 w0 base2 gm bc A N C cs v L b w' :=
  ⟨⟨Fr.below hb, fun A4 C4 h4 => h4.below hb⟩, h.kt.trans (KT.below hb), h.fr.trans (Fr.below hb), h.bel.trans (hb.mono (Nat.le_trans hB h.size)), h.bm.below hb h.bm.lt, ⟨(h.ok.1.below hb).more hb.size, h.ok.2⟩, fun e => (h.cm e).below hb⟩
theorem C21.app (hB : base2 ≤ w0.heap.size) (h : C21 w0 base2 gm bc A N C cs v L false w) {A' : Option Addr} {C' : Nat} (hrow : Row w' base2 58 36 A' (N + 1) C' (flat cs ++ v.row)) (hw : Went w w' A N C 1 A' C')
    (hK : ∀ A4 c4, Row w base2 58 36 A4 (N + 1) c4 (flat cs ++ v.row) → Row w' base2 58 36 A4 (N + 1) c4 (flat cs ++ v.row)) (hvf : 0 < v.m → ∀ b off, v.A = some ⟨b, off, none⟩ → b ∉ L ∧ b ∉ (wrote A C).toList) :
    (Le21 base2 A C (N + 1) (cs ++ [v]) L w w' ∧ C21 w0 base2 gm bc A N C cs v L true w') ∧ Cm w' base2 A' (N + 1) C' (cs ++ [v]) L := by
  have hf := Fr.ofWent hw
  have hc := h.cm rfl
  have ha := hc.app h.ok hrow hw hvf
  refine ⟨⟨⟨hf, fun A4 C4 h4 => ⟨?_, ha.oks, h4.far⟩⟩, h.kt.trans (KT.row hc.row hf), h.fr.trans hf, hw.below hc.row h.bel (Nat.le_refl _) (Nat.le_trans hB h.size), hf.blk h.bm (wrote_ne hc.row h.bm (by decide)), ha.oks v (by simp), fun e => by cases e⟩, ha⟩
  have := h4.row
  rw [flat_snoc] at this ⊢
  exact hK A4 C4 this
end
theorem came_row {v : Cv} (h : v.dr.length = 32) : v.row.toArray.size = 36 ∧ v.row.length = 36 ∧ ∀ x ∈ v.row, x.oneCell' = true := by
  refine ⟨by simp [Cv.row, h], by simp [Cv.row, h], fun x hx => ?_⟩
  rw [Cv.row, List.mem_append] at hx
  rcases hx with hx | hx
  · simp only [List.mem_cons, List.not_mem_nil, or_false] at hx
    rcases hx with rfl | rfl | rfl | rfl <;> rfl
  · exact b8_one _ x hx
theorem sl_one {w : World} {g B : Nat} {v : Cv} (h : v.dr.length = 32) (hb : Blk w g 58 v.row.toArray) (hB : g < B) : Sl w B 36 (some ⟨g, 0, none⟩) 1 1 v.row :=
  ⟨by rw [(came_row h).2.1], Nat.le_refl _, by simp [maxLen], fun _ => ⟨g, 0, rfl, hB, fun j u hu => by rw [Nat.zero_add, hb.cell]; simpa using hu⟩⟩
theorem buildCame (k n x : Int) (A : Option Addr) (m c : Nat) (dr : List UInt8) (h : dr.length = 32) (w : World) : (Instr.build 58 #[(0, .agg #[.int .i64 k, .int .i64 n, .int .i64 x, .slice A m c]), (1, .agg (arr8 dr))]).run Try.prog w = .ok (.agg (([.int .i64 k, .int .i64 n, .int .i64 x, .slice A m c] : List Value) ++ dr.map b8).toArray) w := by
  match dr, h with
  | [a0, a1, a2, a3, a4, a5, a6, a7, a8, a9, a10, a11, a12, a13, a14, a15, a16, a17, a18, a19, a20, a21, a22, a23, a24, a25, a26, a27, a28, a29, a30, a31], _ => (show _ = _; kernel_rfl)
theorem buildSES (tn init : Int) (At : Option Addr) (nt ct : Nat) (Ao : Option Addr) (no co : Nat) (w : World) : (Instr.build 55 #[(0, .agg #[.int .i64 tn, .int .i64 init, .slice At nt ct, .slice Ao no co])]).run Try.prog w = .ok (.agg #[.int .i64 tn, .int .i64 init, .slice At nt ct, .slice Ao no co, .slice none 0 0]) w := by kernel_rfl
theorem came_info : (Try.prog.info? 58).map (fun i => (i.size, i.bytes)) = some (36, 80) := by kernel_rfl
theorem wpList_append_came {ops : Array Oper} {rest : List Oper} {o : Oper} {a : Act} {Q : Exit → Act → World → Prop} {w : World} (hgd : o.guard = none) (s x : Operand)
    (ho : o.op = .call { callee := .builtin .append, args := #[s, x], argTypes := #[53, 53] })
    {base : Nat} {A : Option Addr} {n c : Nat} {xs : List Value} (hs : a.eval s = .slice A n c) (hown : Row w base 58 36 A n c xs)
    {B : Nat} {A2 : Option Addr} {c2 : Nat} {news : List Value} (hx : a.eval x = .slice A2 1 c2) (hr : Sl w B 36 A2 1 c2 news) (h1 : ∀ u ∈ news, u.oneCell' = true) (hn : n ≤ 300) (hbase : base ≤ w.heap.size)
    (h : ∀ A' c' w', Row w' base 58 36 A' (n + 1) c' (xs ++ news) → Went w w' A n c 1 A' c' → (∀ A4 c4, Row w base 58 36 A4 (n + 1) c4 (xs ++ news) → Row w' base 58 36 A4 (n + 1) c4 (xs ++ news)) → wpList Try.prog ops Q rest (a.put o.dst (.slice A' ((n + 1 : Nat)) c')) w') :
    wpList Try.prog ops Q (o :: rest) a w := by
  obtain ⟨i0, hi, hz⟩ : ∃ i, Try.prog.info? 58 = some i ∧ (i.size, i.bytes) = (36, 80) := by
    have h := came_info
    cases hh : Try.prog.info? 58 with
    | none => rw [hh] at h; cases h
    | some i => rw [hh] at h; exact ⟨i, rfl, by simpa using h⟩
  have hz0 := zeroCame
  rw [hi] at hz0
  simp only [Prod.mk.injEq] at hz
  exact wpList_append_rowK hgd s x _ ho Try.underlying53 hi hz0 hz.1 hz.2 (show zCame.size = 36 by simp [zCame, size_arr8, len_z8']) hs hown hx hr h1 (by omega) (by simp only [maxLen]; omega) hbase h
theorem hnd_drew {init : Int} {th ou : List UInt8} {s s1 : Sst} {k n : Int} {ds dr : List UInt8} {out : Out} (h : hnd init th ou s k n ds dr = (s1, out)) (hd : out.drew = true) : out.has = true ∧ s1.st = 1 := by
  unfold hnd at h
  repeat' split at h
  all_goals
    simp only [Prod.mk.injEq] at h
    obtain ⟨rfl, rfl⟩ := h
  case _ => exact ⟨rfl, rfl⟩
  all_goals simp [Out.rej, Out.none] at hd
theorem stf_snoc {init : Int} {th ou : List UInt8} (cs : List Cv) (v : Cv) : stf init th ou (cs ++ [v]) = (hnd init th ou (stf init th ou cs) v.k v.n v.ds v.dr).1 := by
  rw [stf, List.foldl_append]
  rfl
theorem Cm.md {w : World} {base2 gm N C : Nat} {tn init : Int} {At : Option Addr} {nt ct : Nat} {th : List UInt8} {Ao : Option Addr} {no co : Nat} {ou : List UInt8} {A : Option Addr} {cs : List Cv} {L : List Nat} (h : Cm w base2 A N C cs L) (hb : Blk w gm 55 #[.int .i64 tn, .int .i64 init, .slice At nt ct, .slice Ao no co, .slice A N C]) (hl : cs.length = N) (ht : SlB w w.heap.size At nt ct th) (ho : SlB w w.heap.size Ao no co ou) (h1 : nt ≤ 1048576) (h2 : no ≤ 1048576) (h3 : N ≤ 300) : Md w gm tn init At nt ct th Ao no co ou A N C cs :=
  ⟨hb, Row.sl h.row, hl, h.oks, ht, ho, h1, h2, h3⟩
end Go.Proofs.Ytiadfbcdopfibaa
