/-
  login: the session, what it reads as; its small functions (printed by wip/gen_login.py).
-/
import Derived.Test.YtiadfbcdopfibaaChapB
import Derived.Test.YtiadfbcdopfibaaOneRow
import Derived.Test.YtiadfbcdopfibaaApartA
namespace Go.Proofs.Ytiadfbcdopfibaa
open Go.RowKit
set_option linter.unusedVariables false
set_option linter.unusedSimpArgs false
set_option maxRecDepth 100000

theorem wpList_store_whole {P : Program} {ops : Array Oper} {rest : List Oper} {o : Oper} {a : Act} {Q : Exit → Act → World → Prop} {w : World} (hw : Region.wanted o (yielded ops a.tmps) = true) (T : TypeId) (p x : Operand) (ho : o.op = .store T p x) (g : Nat) (hp : a.eval p = .pointer (some ⟨g, 0, none⟩)) (vs : List Value) (hx : a.eval x = .agg vs.toArray) {n : Nat} (hT : AggT P T n) (hn : vs.length = n)
    (t : TypeId) (cur : Array Value) (hb : Blk w g t cur) (hc : cur.size = n) (h1 : ∀ v ∈ vs, v.oneCell' = true)
    (h : ∀ w', Blk w' g t vs.toArray → w.grownBy w' (some g) → w'.heap.size = w.heap.size → wpList P ops Q rest (a.put o.dst undef) w') : wpList P ops Q (o :: rest) a w :=
  wpList_store_agg hw T p x ho g 0 hp vs hx hT hn t cur hb (by rw [hn, hc]; omega) h1 fun w' h1 h2 h3 => h w' (by rw [splice_whole cur _ (by rw [hn, hc])] at h1; exact h1) h2 h3
theorem aggFr : AggT Try.prog 36 4 := ⟨⟨_, Try.underlying36, rfl⟩, by kernel_rfl⟩
theorem zeroFr : (Try.prog.info? 36).bind (·.zero) = some (.agg #[.int .i64 0, .int .i64 0, .int .i64 0, .slice none 0 0]) := by kernel_rfl
theorem aggSt : AggT Try.prog 42 3 := ⟨⟨_, Try.underlying42, rfl⟩, by kernel_rfl⟩
theorem zeroSt : (Try.prog.info? 42).bind (·.zero) = some (.agg #[.slice none 0 0, .bool false, .bool false]) := by kernel_rfl
theorem sizeFr : (Try.prog.info? 36).map (·.size) = some 4 := by kernel_rfl
theorem aggSe : AggT Try.prog 74 39 := ⟨⟨_, Try.underlying74, rfl⟩, by kernel_rfl⟩
theorem buildSt (A : Option Addr) (n c : Nat) (w : World) : (Instr.build 42 #[(0, .slice A n c)]).run Try.prog w = .ok (.agg #[.slice A n c, .bool false, .bool false]) w := by kernel_rfl
theorem buildStZ (w : World) : (Instr.build 42 #[]).run Try.prog w = .ok (.agg #[.slice none 0 0, .bool false, .bool false]) w := by kernel_rfl
theorem buildStT (w : World) : (Instr.build 42 #[(2, .bool true)]).run Try.prog w = .ok (.agg #[.slice none 0 0, .bool false, .bool true]) w := by kernel_rfl

/-- All blocks but these stay. -/
def Fr (gs : List Nat) (w w' : World) : Prop := w.heap.size ≤ w'.heap.size ∧ ∀ k, k < w.heap.size → k ∉ gs → w'.heap[k]? = w.heap[k]?
theorem Fr.below {gs : List Nat} {w w' : World} (h : Below w.heap.size w w') : Fr gs w w' := ⟨h.size, fun k hk _ => h.block k hk⟩
theorem Fr.trans {gs : List Nat} {w w' w2 : World} (h : Fr gs w w') (h' : Fr gs w' w2) : Fr gs w w2 := ⟨Nat.le_trans h.1 h'.1, fun k hk hn => (h'.2 k (Nat.lt_of_lt_of_le hk h.1) hn).trans (h.2 k hk hn)⟩
theorem Fr.grown {gs : List Nat} {w w' w2 : World} {g : Nat} (h : Fr gs w w') (hg : w'.grownBy w2 (some g)) (ho : g ∈ gs ∨ w.heap.size ≤ g) : Fr gs w w2 :=
  ⟨Nat.le_trans h.1 hg.size, fun k hk hn => (hg.block k (Nat.lt_of_lt_of_le hk h.1) (fun e => by
    cases e
    rcases ho with ho | ho
    · exact hn ho
    · omega)).trans (h.2 k hk hn)⟩
theorem Fr.more {gs gs' : List Nat} {w w' : World} (h : Fr gs w w') (hs : ∀ g ∈ gs, g ∈ gs') : Fr gs' w w' := ⟨h.1, fun k hk hn => h.2 k hk fun e => hn (hs _ e)⟩
theorem Fr.blk {gs : List Nat} {w w' : World} (h : Fr gs w w') {g : Nat} {t : TypeId} {cs : Array Value} (hb : Blk w g t cs) (hn : g ∉ gs) : Blk w' g t cs := (h.2 g hb.lt hn).trans hb
/-- A slice that doesn't lie in a block reads as it did, where only that block is written. -/
theorem slN_keep {w W : World} {B g m c : Nat} {A : Option Addr} {ds : List UInt8} (h : SlB w B A m c ds) (hB : B ≤ w.heap.size) (hf : ∀ b off, A = some ⟨b, off, none⟩ → b ≠ g) (hk : Fr [g] w W) : SlB W B A m c ds :=
  ⟨h.1, h.2.1, h.2.2.1, fun hc => by
    obtain ⟨b, off, e, hb, hj⟩ := h.2.2.2 hc
    refine ⟨b, off, e, hb, fun j u hu => ?_⟩
    have h1 := hj j u hu
    have h2 := hk.2 b (Nat.lt_of_lt_of_le hb hB) (by simpa using hf b off e)
    exact (World.cell?_of_block (w := w) (a := ⟨b, off + j, none⟩) h2).trans h1⟩
/-! ## The session -/
/-- Its cells. -/
def sess (tn init : Int) (At : Option Addr) (nt ct : Nat) (Ao : Option Addr) (no co : Nat) (st gr : Int) (ch : List UInt8) (nx : Int) : List Value :=
  [.int .i64 tn, .int .i64 init, .slice At nt ct, .slice Ao no co, .int .i64 st, .int .i64 gr] ++ (ch.map b8 ++ [.int .i64 nx])
/-- A session at gs: the initiator, its secret, the target's, the state, how often it was greeted, the challenge, the next number. -/
structure Se (w : World) (base gs : Nat) (init : Int) (th ou : List UInt8) (st gr : Int) (ch : List UInt8) (nx : Int) : Prop where
  cells : ∃ tn At nt ct Ao no co, Blk w gs 74 (sess tn init At nt ct Ao no co st gr ch nx).toArray ∧ OwB w base At nt ct th ∧ OwB w base Ao no co ou
  lch : ch.length = 32
  hb : base ≤ gs
section
variable {w w' : World} {base gs : Nat} {init : Int} {th ou ch : List UInt8} {st gr nx : Int}
theorem Se.below (h : Se w base gs init th ou st gr ch nx) (hb : Below w.heap.size w w') : Se w' base gs init th ou st gr ch nx :=
  ⟨by obtain ⟨tn, At, nt, ct, Ao, no, co, h1, h2, h3⟩ := h.cells; exact ⟨tn, At, nt, ct, Ao, no, co, h1.below hb h1.lt, OwB.below h2 hb, OwB.below h3 hb⟩, h.lch, h.hb⟩
theorem Se.lt (h : Se w base gs init th ou st gr ch nx) : gs < w.heap.size := by obtain ⟨_, _, _, _, _, _, _, h1, _⟩ := h.cells; exact h1.lt
theorem Se.c4 (h : Se w base gs init th ou st gr ch nx) : w.cell? ⟨gs, 4, none⟩ = some (.int .i64 st) := by obtain ⟨_, _, _, _, _, _, _, h1, _⟩ := h.cells; rw [h1.cell]; rfl
theorem Se.c5 (h : Se w base gs init th ou st gr ch nx) : w.cell? ⟨gs, 5, none⟩ = some (.int .i64 gr) := by obtain ⟨_, _, _, _, _, _, _, h1, _⟩ := h.cells; rw [h1.cell]; rfl
theorem Se.c1 (h : Se w base gs init th ou st gr ch nx) : w.cell? ⟨gs, 1, none⟩ = some (.int .i64 init) := by obtain ⟨_, _, _, _, _, _, _, h1, _⟩ := h.cells; rw [h1.cell]; rfl
theorem Se.c38 (h : Se w base gs init th ou st gr ch nx) : w.cell? ⟨gs, 38, none⟩ = some (.int .i64 nx) := by
  obtain ⟨_, _, _, _, _, _, _, h1, _⟩ := h.cells
  rw [h1.cell, sess]
  simp [h.lch]
theorem Se.fz (h : Se w base gs init th ou st gr ch nx) (i : Nat) : w.frozen? ⟨gs, i, none⟩ = false := by obtain ⟨_, _, _, _, _, _, _, h1, _⟩ := h.cells; exact h1.frozen i
theorem row_far {A : Option Addr} {n c : Nat} {bs : List UInt8} {cs : Array Value} {g i : Nat} (h : OwB w base A n c bs) (hb : Blk w g 74 cs) (v : Value) : OwB (w.setCell ⟨g, i, none⟩ v) base A n c bs := by
  refine Row.keepRow h (grownBy_setCell _ g i _) ?_
  by_cases hc : c = 0
  · left; rw [wrote, if_pos hc]
  · right
    intro e
    obtain ⟨g', cur, rfl, _, hk, _⟩ := OwB.open_ h (by omega)
    rw [wrote, if_neg hc] at e
    simp only [Option.map_some, Option.some.injEq] at e
    subst e
    rw [Blk] at hb hk
    rw [hk] at hb
    simp at hb
theorem Se.setNx (h : Se w base gs init th ou st gr ch nx) (v : Int) : Se (w.setCell ⟨gs, 38, none⟩ (.int .i64 v)) base gs init th ou st gr ch v :=
  ⟨by
    obtain ⟨tn, At, nt, ct, Ao, no, co, h1, h2, h3⟩ := h.cells
    refine ⟨tn, At, nt, ct, Ao, no, co, ?_, row_far h2 h1 _, row_far h3 h1 _⟩
    have := h1.set_ 38 (.int .i64 v)
    have e : (sess tn init At nt ct Ao no co st gr ch nx).toArray.setIfInBounds 38 (.int .i64 v) = (sess tn init At nt ct Ao no co st gr ch v).toArray := by
      rw [List.setIfInBounds_toArray]
      congr 1
      simp only [sess, List.cons_append, List.nil_append, List.set_cons_succ]
      rw [List.set_append_right _ _ (by rw [List.length_map, h.lch]; omega)]
      simp [h.lch]
    rw [e] at this
    exact this, h.lch, h.hb⟩
theorem Se.setSt (h : Se w base gs init th ou st gr ch nx) (v : Int) : Se (w.setCell ⟨gs, 4, none⟩ (.int .i64 v)) base gs init th ou v gr ch nx :=
  ⟨by
    obtain ⟨tn, At, nt, ct, Ao, no, co, h1, h2, h3⟩ := h.cells
    refine ⟨tn, At, nt, ct, Ao, no, co, ?_, row_far h2 h1 _, row_far h3 h1 _⟩
    have := h1.set_ 4 (.int .i64 v)
    rw [List.setIfInBounds_toArray] at this
    exact this, h.lch, h.hb⟩
theorem Se.setGr (h : Se w base gs init th ou st gr ch nx) (v : Int) : Se (w.setCell ⟨gs, 5, none⟩ (.int .i64 v)) base gs init th ou st v ch nx :=
  ⟨by
    obtain ⟨tn, At, nt, ct, Ao, no, co, h1, h2, h3⟩ := h.cells
    refine ⟨tn, At, nt, ct, Ao, no, co, ?_, row_far h2 h1 _, row_far h3 h1 _⟩
    have := h1.set_ 5 (.int .i64 v)
    rw [List.setIfInBounds_toArray] at this
    exact this, h.lch, h.hb⟩
end

theorem state_c {w : World} {base gs : Nat} {init : Int} {th ou ch : List UInt8} {st gr nx : Int} (h : Se w base gs init th ou st gr ch nx) : Calls Try.prog 15 #[.pointer (some ⟨gs, 0, none⟩)] w fun e w' => e = .returned (.int .i64 st) ∧ w = w' := by
  have d := h.c4
  clear h
  go_enter Try.func15, Try.ntmps15
  go_wp2_with fail
  go_ret
  exact ⟨rfl, rfl⟩
theorem state_nil (w : World) : Calls Try.prog 15 #[.pointer none] w fun e w' => e = .returned (.int .i64 0) ∧ w = w' := by
  go_enter Try.func15, Try.ntmps15
  go_wp2_with fail
  go_ret
  exact ⟨rfl, rfl⟩
theorem greeted_c {w : World} {base gs : Nat} {init : Int} {th ou ch : List UInt8} {st gr nx : Int} (h : Se w base gs init th ou st gr ch nx) : Calls Try.prog 22 #[.pointer (some ⟨gs, 0, none⟩)] w fun e w' => e = .returned (.int .i64 gr) ∧ w = w' := by
  have d := h.c5
  clear h
  go_enter Try.func22, Try.ntmps22
  go_wp2_with fail
  go_ret
  exact ⟨rfl, rfl⟩
theorem greeted_nil (w : World) : Calls Try.prog 22 #[.pointer none] w fun e w' => e = .returned (.int .i64 0) ∧ w = w' := by
  go_enter Try.func22, Try.ntmps22
  go_wp2_with fail
  go_ret
  exact ⟨rfl, rfl⟩
theorem next_c {w : World} {base gs : Nat} {init : Int} {th ou ch : List UInt8} {st gr nx : Int} (h : Se w base gs init th ou st gr ch nx) (r : Int) (hr : (if st = 2 then nx else 0) = r) : Calls Try.prog 16 #[.pointer (some ⟨gs, 0, none⟩)] w fun e w' => e = .returned (.int .i64 r) ∧ w = w' := by
  have d := h.c38
  by_cases h2 : st = 2
  · rw [if_pos h2] at hr
    subst hr
    have hne : (st != 2) = false := by simp [h2]
    have H := Lib.hid h
    clear h h2
    go_enter Try.func16, Try.ntmps16
    go_wp2_with (go_at_call 15; refine (state_c H.out).mono ?_; rintro e w' ⟨rfl, rfl⟩)
    go_ret
    exact ⟨rfl, rfl⟩
  · rw [if_neg h2] at hr
    subst hr
    have hne : (st != 2) = true := by simpa using h2
    have H := Lib.hid h
    clear h h2
    go_enter Try.func16, Try.ntmps16
    go_wp2_with (go_at_call 15; refine (state_c H.out).mono ?_; rintro e w' ⟨rfl, rfl⟩)
    go_ret
    exact ⟨rfl, rfl⟩
theorem next_nil (w : World) : Calls Try.prog 16 #[.pointer none] w fun e w' => e = .returned (.int .i64 0) ∧ w = w' := by
  go_enter Try.func16, Try.ntmps16
  go_wp2_with (go_at_call 15; refine (state_nil _).mono ?_; rintro e w' ⟨rfl, rfl⟩)
  go_ret
  exact ⟨rfl, rfl⟩
theorem id_c {w : World} {base gs : Nat} {init : Int} {th ou ch : List UInt8} {st nx : Int} {gr : Nat} (h : Se w base gs init th ou st (gr : Int) ch nx) : Calls Try.prog 45 #[.pointer (some ⟨gs, 0, none⟩)] w fun e w' => e = .returned (.int .i64 (((gr % 256 : Nat)) : Int)) ∧ w = w' := by
  have d := h.c5
  obtain ⟨q, hq⟩ : ∃ q, q = gr % 256 := ⟨_, rfl⟩
  rw [← hq]
  have htm : ((gr : Int)).tmod 256 = (q : Int) := by rw [Int.tmod_eq_emod_of_nonneg (by omega)]; omega
  have hmd : (gr : Int) % 256 = (q : Int) := by omega
  clear h hq
  go_enter Try.func45, Try.ntmps45
  go_wp2_with fail
  go_ret
  exact ⟨rfl, rfl⟩

/-! ## Steps -/
set_option maxHeartbeats 2000000 in
theorem says_c (k n x : Int) (A : Option Addr) (m c : Nat) (w : World) :
    Calls Try.prog 46 #[.agg #[.int .i64 k, .int .i64 n, .int .i64 x, .slice A m c]] w fun e w' => ∃ g, e = .returned (.agg #[.slice (some ⟨g, 0, none⟩) 1 1, .bool false, .bool false]) ∧ w.heap.size ≤ g ∧ Blk w' g 36 #[.int .i64 k, .int .i64 n, .int .i64 x, .slice A m c] ∧ Below w.heap.size w w' := by
  obtain ⟨v, hv⟩ : ∃ v, v = (w.alloc (.cells #[.int .i64 k, .int .i64 n, .int .i64 x, .slice A m c] 36)).alloc (.cells #[.slice none 0 0, .bool false, .bool false] 42) := ⟨_, rfl⟩
  have b1 : Blk v w.heap.size 36 #[.int .i64 k, .int .i64 n, .int .i64 x, .slice A m c] := by rw [hv]; exact (Blk.new _ _ _).alloc _
  have b2 : Blk v (w.heap.size + 1) 42 #[.slice none 0 0, .bool false, .bool false] := by
    have := Blk.new (w.alloc (.cells #[.int .i64 k, .int .i64 n, .int .i64 x, .slice A m c] 36)) 42 #[.slice none 0 0, .bool false, .bool false]
    rw [World.size_alloc] at this
    rw [hv]; exact this
  have hbv : Below w.heap.size w v := by rw [hv]; exact ((Below.refl _ _).alloc (Nat.le_refl _) _).alloc (by simp) _
  have hz := hbv.size
  have b2v := b2.alloc (.cells #[.int .i64 k, .int .i64 n, .int .i64 x, .slice A m c] 36)
  have b3v := Blk.new v 36 #[.int .i64 k, .int .i64 n, .int .i64 x, .slice A m c]
  have hB := buildSt (some ⟨v.heap.size, 0, none⟩) 1 1
  have hbv3 : Below w.heap.size w (v.alloc (.cells #[.int .i64 k, .int .i64 n, .int .i64 x, .slice A m c] 36)) := hbv.alloc hz _
  have HV := Lib.hid hv
  clear hv
  go_enter Try.func46, Try.ntmps46
  go_wp2_with (first
    | ((with_reducible show wpList _ _ _ (Oper.mk (some 2) (Op.alloc _) _ _ _ _ :: _) _ _); refine wpList_alloc_agg rfl 42 rfl #[.slice none 0 0, .bool false, .bool false] zeroSt ?_; rw [← HV.out])
    | ((with_reducible show wpList _ _ _ (Oper.mk (some 3) (Op.load 36 _) _ _ _ _ :: _) _ _); refine wpList_load_whole rfl 36 (.tmp 1) rfl w.heap.size rfl #[.int .i64 k, .int .i64 n, .int .i64 x, .slice A m c] aggFr rfl _ b1 ?_)
    | ((with_reducible show wpList _ _ _ (Oper.mk (some 4) (Op.buildSlice _ _ _) _ _ _ _ :: _) _ _); refine wpList_one_row rfl 40 (.tmp 3) rfl Try.underlying40 sizeFr zeroFr rfl (by omega) (by omega) #[.int .i64 k, .int .i64 n, .int .i64 x, .slice A m c] rfl rfl ?_)
    | ((with_reducible show wpList _ _ _ (Oper.mk none (Op.store 42 (.tmp 2) _) _ _ _ _ :: _) _ _); refine wpList_store_whole rfl 42 (.tmp 2) (.tmp 5) rfl (w.heap.size + 1) rfl [.slice (some ⟨v.heap.size, 0, none⟩) 1 1, .bool false, .bool false] rfl aggSt rfl _ _ b2v rfl (by simp [Value.oneCell']) ?_; intro w8 b8 g8 s8))
  refine bodyPost_ret (results_cell_one rfl _ (w.heap.size + 1) _ #[.slice (some ⟨v.heap.size, 0, none⟩) 1 1, .bool false, .bool false] aggSt rfl rfl b8) rfl ⟨v.heap.size, rfl, hz, b3v.grown g8 (by have := b2.lt; simp; omega), ?_⟩
  exact hbv3.grown g8 (by simp; omega) (fun k hk => by cases hk; omega)
theorem reject_c (x : Int) (w : World) : Calls Try.prog 49 #[.int .i64 x] w fun e w' => e = .returned (.agg #[.int .i64 7, .int .i64 0, .int .i64 x, .slice none 0 0]) ∧ Below w.heap.size w w' := by
  have b2 := Blk.new w 36 #[.int .i64 0, .int .i64 0, .int .i64 0, .slice none 0 0]
  go_enter Try.func49, Try.ntmps49
  go_wp2_with (first
    | ((with_reducible show wpList _ _ _ (Oper.mk (some 2) (Op.alloc _) _ _ _ _ :: _) _ _); refine wpList_alloc_agg rfl 36 rfl #[.int .i64 0, .int .i64 0, .int .i64 0, .slice none 0 0] zeroFr ?_)
    | ((with_reducible show wpList _ _ _ (Oper.mk none (Op.store 36 (.tmp 2) _) _ _ _ _ :: _) _ _); refine wpList_store_whole rfl 36 (.tmp 2) (.tmp 4) rfl w.heap.size rfl [.int .i64 7, .int .i64 0, .int .i64 x, .slice none 0 0] rfl aggFr rfl _ _ b2 rfl (by simp [Value.oneCell']) ?_; intro wf bf gf sf))
  refine bodyPost_ret (results_cell_one rfl _ w.heap.size _ #[.int .i64 7, .int .i64 0, .int .i64 x, .slice none 0 0] aggFr rfl rfl bf) rfl ⟨rfl, ?_⟩
  exact (below_alloc _ _).grown gf (by simp) (fun k hk => by cases hk; exact Nat.le_refl _)
set_option maxHeartbeats 2000000 in
theorem rejects_c (x : Int) (w : World) :
    Calls Try.prog 34 #[.int .i64 x] w fun e w' => ∃ g, e = .returned (.agg #[.slice (some ⟨g, 0, none⟩) 1 1, .bool false, .bool false]) ∧ w.heap.size ≤ g ∧ Blk w' g 36 #[.int .i64 7, .int .i64 0, .int .i64 x, .slice none 0 0] ∧ Below w.heap.size w w' := by
  obtain ⟨v, hv⟩ : ∃ v, v = w.alloc (.cells #[.slice none 0 0, .bool false, .bool false] 42) := ⟨_, rfl⟩
  have b2 : Blk v w.heap.size 42 #[.slice none 0 0, .bool false, .bool false] := by rw [hv]; exact Blk.new _ _ _
  have hbv : Below w.heap.size w v := by rw [hv]; exact below_alloc _ _
  have hz := hbv.size
  have HV := Lib.hid hv
  clear hv
  go_enter Try.func34, Try.ntmps34
  go_wp2_with (first
    | ((with_reducible show wpList _ _ _ (Oper.mk (some 2) (Op.alloc _) _ _ _ _ :: _) _ _); refine wpList_alloc_agg rfl 42 rfl #[.slice none 0 0, .bool false, .bool false] zeroSt ?_; rw [← HV.out])
    | (go_at_call 49; refine (reject_c x v).mono ?_; rintro e w3 ⟨rfl, hb3⟩; have b23 := b2.below hb3 b2.lt; have hw3 := hbv.trans (hb3.mono hz); have hz3 := hw3.size; have hl2 := b2.lt; have hz33 := hb3.size)
    | (go_at_call 46; refine (says_c 7 0 x none 0 0 w3).mono ?_; rintro e w4 ⟨g, rfl, hg, q4, hb4⟩; have b24 := b23.below hb4 b23.lt; have hw4 := hw3.trans (hb4.mono hz3); have hz4 := hw4.size)
    | ((with_reducible show wpList _ _ _ (Oper.mk none (Op.store 42 (.tmp 2) _) _ _ _ _ :: _) _ _); refine wpList_store_whole rfl 42 (.tmp 2) (.tmp 5) rfl w.heap.size rfl [.slice (some ⟨g, 0, none⟩) 1 1, .bool false, .bool false] rfl aggSt rfl _ _ b24 rfl (by simp [Value.oneCell']) ?_; intro w8 b8 g8 s8))
  refine bodyPost_ret (results_cell_one rfl _ w.heap.size _ #[.slice (some ⟨g, 0, none⟩) 1 1, .bool false, .bool false] aggSt rfl rfl b8) rfl ⟨g, rfl, by omega, q4.grown g8 (by simp; omega), ?_⟩
  exact hw4.grown g8 hz4 (fun k hk => by cases hk; exact Nat.le_refl _)
end Go.Proofs.Ytiadfbcdopfibaa
