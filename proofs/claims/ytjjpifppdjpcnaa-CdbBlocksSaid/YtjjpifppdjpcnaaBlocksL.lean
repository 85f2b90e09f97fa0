/-
  cdb.Blocks in one form; what stays in a range over a func (printed by wip/gen_cblks.py).
-/
import Derived.Test.YtjjpifppdjpcnaaBlocksC
namespace Go.Proofs.Ytjjpifppdjpcnaa
open Go.RowKit Go.Shelf
set_option linter.unusedVariables false
set_option linter.unusedSimpArgs false
set_option maxRecDepth 100000

/-- A command that has blocks. -/
def okB (kind unit block many : Int) (m : Nat) (op who key new ty : Int) (st : Bool) : Prop := goodC kind unit block many m op who key new ty st ∧ (kind = 1 ∨ kind = 2) ∧ unit < 2 ∧ 1 ≤ many ∧ block + many ≤ 16
theorem blocks_c {w : World} {B : Nat} {A : Option Addr} {m c : Nat} {ds : List UInt8} (kind unit block many op who key new ty : Int) (st : Bool) (hd : SlB w B A m c ds) (hB : B ≤ w.heap.size) (hm : m ≤ 1000000) (hwf : (Lit.int .i64 kind).wf = true ∧ (Lit.int .i64 unit).wf = true ∧ (Lit.int .i64 block).wf = true ∧ (Lit.int .i64 many).wf = true) (hwf2 : (Lit.int .i64 op).wf = true ∧ (Lit.int .i64 key).wf = true ∧ (Lit.int .i64 new).wf = true ∧ (Lit.int .i64 ty).wf = true)
    (M z N : Nat) (hM : okB kind unit block many m op who key new ty st → (M : Int) = many) (hM0 : ¬ okB kind unit block many m op who key new ty st → M = 0) (hzz : z = 128 * M - m) (hN : N = m + z) :
    Calls Try.prog 39 #[.agg #[.int .i64 kind, .int .i64 unit, .int .i64 block, .int .i64 many, .slice A m c, .int .i64 op, .int .i64 who, .int .i64 key, .int .i64 new, .int .i64 ty, .bool st]] w fun e w' => ∃ g4 A' c', e = .returned (.func (.func 61) #[] #[.pointer (some ⟨w.heap.size + 1, 0, none⟩), .pointer (some ⟨w.heap.size, 0, none⟩), .pointer (some ⟨g4, 0, none⟩)]) ∧ w.heap.size + 2 ≤ g4 ∧
      Blk w' w.heap.size 56 #[.int .i64 kind, .int .i64 unit, .int .i64 block, .int .i64 many, .slice A m c, .int .i64 op, .int .i64 who, .int .i64 key, .int .i64 new, .int .i64 ty, .bool st] ∧ Blk w' (w.heap.size + 1) 3 #[.int .i64 (M : Int)] ∧ Blk w' g4 22 #[.slice A' N c'] ∧ OwB w' (w.heap.size + 2) A' N c' (ds ++ List.replicate z 0) ∧ NotCell A' c' g4 ∧ Below w.heap.size w w' := by
  by_cases hok : okB kind unit block many m op who key new ty st
  · obtain ⟨hg, hk, hu, h1, h16⟩ := hok
    have hM := hM ⟨hg, hk, hu, h1, h16⟩
    have hb0 := hg.2.2.2.2.1
    have hmv : (kind == 1 || kind == 2) = true := by rcases hk with rfl | rfl <;> rfl
    have hge : 0 ≤ (M : Int) * 128 - (m : Int) := by
      rcases hk with rfl | rfl
      · have := hg.2.2.2.2.2.2.2.2.2.1 (by decide); omega
      · have := (hg.2.2.2.2.2.2.2.2.1 rfl).2; omega
    exact blocks_yes_ge kind unit block many op who key new ty st hd hB hm M hM (by omega) hmv (fun v hv => check_ok kind unit block many op who key new ty st (hd.below (hv.mono hB)) (Nat.le_trans hB hv.size) (by omega) hwf hwf2 hg (by omega)) z N hzz hN hge
  · have hM := hM0 hok
    by_cases hmv : (kind == 1 || kind == 2) = true
    · have hk : kind = 1 ∨ kind = 2 := by simpa using hmv
      obtain ⟨x, hck⟩ : ∃ x : Int, ∀ v, Below w.heap.size w v → Calls Try.prog 31 #[.agg #[.int .i64 kind, .int .i64 unit, .int .i64 block, .int .i64 many, .slice A m c, .int .i64 op, .int .i64 who, .int .i64 key, .int .i64 new, .int .i64 ty, .bool st]] v fun e w' => e = .returned (.iface 35 (.int .i64 x)) ∧ Below v.heap.size v w' := by
        by_cases hg : goodC kind unit block many m op who key new ty st
        · by_cases hu : 2 ≤ unit
          · exact ⟨1, fun v hv => check_rangeu kind unit block many op who key new ty st (hd.below (hv.mono hB)) (Nat.le_trans hB hv.size) (by omega) hwf hwf2 hg hu⟩
          · refine ⟨1, fun v hv => check_rangem kind unit block many op who key new ty st (hd.below (hv.mono hB)) (Nat.le_trans hB hv.size) (by omega) hwf hwf2 hg ⟨by omega, hk, ?_⟩⟩
            have : ¬ (1 ≤ many ∧ block + many ≤ 16) := fun h => hok ⟨hg, hk, by omega, h.1, h.2⟩
            omega
        · exact ⟨11, fun v hv => check_no kind unit block many op who key new ty st (hd.below (hv.mono hB)) (Nat.le_trans hB hv.size) (by omega) hwf hwf2 hg⟩
      by_cases hge : 0 ≤ (M : Int) * 128 - (m : Int)
      · exact blocks_bad_ge kind unit block many op who key new ty st hd hB hm M hM hmv x hck z N hzz hN hge
      · exact blocks_bad_lt kind unit block many op who key new ty st hd hB hm M hM hmv x hck z N hzz hN hge
    · have hmv : (kind == 1 || kind == 2) = false := by simpa using hmv
      by_cases hge : 0 ≤ (M : Int) * 128 - (m : Int)
      · exact blocks_no_ge kind unit block many op who key new ty st hd hB hm M hM hmv z N hzz hN hge
      · exact blocks_no_lt kind unit block many op who key new ty st hd hB hm M hM hmv z N hzz hN hge

/-! ## What stays while a range over a func runs -/
def Stay (w : World) (L : List (Nat × TypeId × Array Value)) (O : Nat → Prop) (W : World) : Prop := (∀ p ∈ L, ¬ O p.1 ∧ Blk W p.1 p.2.1 p.2.2) ∧ Below w.heap.size w W
section
variable {w : World} {L : List (Nat × TypeId × Array Value)} {O O' : Nat → Prop} {W W' : World}
theorem Stay.calm {B : Nat} (h : Stay w L O W) (hc : Calm B W W') (hB : w.heap.size ≤ B) : Stay w L O W' := ⟨fun p hp => ⟨(h.1 p hp).1, hc.blk (h.1 p hp).2⟩, hc.below h.2 hB (Nat.le_refl _)⟩
theorem Stay.on (h : Stay w L O W) (hb : Below W.heap.size W W') : Stay w L O W' := ⟨fun p hp => ⟨(h.1 p hp).1, (h.1 p hp).2.below hb (h.1 p hp).2.lt⟩, h.2.trans (hb.mono h.2.size)⟩
theorem Stay.step (h : Stay w L O W) {g : Nat} (hg : W.grownBy W' (some g)) (ho : O g) (hw : w.heap.size ≤ g) : Stay w L O W' :=
  ⟨fun p hp => ⟨(h.1 p hp).1, (h.1 p hp).2.grown hg (fun e => (h.1 p hp).1 (by cases e; exact ho))⟩, h.2.grown hg h.2.size (fun k hk => by cases hk; exact hw)⟩
theorem Stay.own (h : Stay w L O W) (hO : ∀ k, O' k → W.heap.size ≤ k) : Stay w L O' W := ⟨fun p hp => ⟨fun e => by have := hO _ e; have := (h.1 p hp).2.lt; omega, (h.1 p hp).2⟩, h.2⟩
theorem Stay.snoc {g : Nat} {t : TypeId} {cs : Array Value} (h : Stay w L O W) (hn : ¬ O g) (hb : Blk W g t cs) : Stay w (L ++ [(g, t, cs)]) O W := ⟨fun p hp => by
  rcases List.mem_append.1 hp with hp | hp
  · exact h.1 p hp
  · rw [List.mem_singleton] at hp; subst hp; exact ⟨hn, hb⟩, h.2⟩
theorem Stay.far {g : Nat} (h : Stay w L O W) (hne : ∀ p ∈ L, p.1 ≠ g) (hw : w.heap.size ≤ g) (i : Nat) (v : Value) : Stay w L O (W.setCell ⟨g, i, none⟩ v) := ⟨fun p hp => ⟨(h.1 p hp).1, (h.1 p hp).2.far (hne p hp) _⟩, h.2.setCell (p := ⟨g, i, none⟩) hw _⟩
theorem Stay.imp {O2 : Nat → Prop} (h : Stay w L O W) (hO : ∀ p ∈ L, ¬ O2 p.1) : Stay w L O2 W := ⟨fun p hp => ⟨hO p hp, (h.1 p hp).2⟩, h.2⟩
theorem Stay.cell {g : Nat} {t : TypeId} {cs : Array Value} (h : Stay w L O W) (hp : (g, t, cs) ∈ L) (i : Nat) : W.cell? ⟨g, i, none⟩ = cs[i]? := (h.1 _ hp).2.cell i
end
theorem not_wrote {w : World} {base n c g : Nat} {A : Option Addr} {bs : List UInt8} (h : OwB w base A n c bs) (hg : g < base) : wrote A c ≠ some g := by
  rcases Row.wrote_lt h with h1 | ⟨g', _, h1, hb, _⟩
  · rw [h1]; exact fun e => by cases e
  · rw [h1]; exact fun e => by cases e; omega
theorem wp_at {P : Program} {C : Code} {Q : Exit → Act → World → Prop} {a : Act} {w : World} (h : ∀ a0, a0 = a → C.wp P Q a0 w) : C.wp P Q a w := h a rfl
theorem fold_one (p : Tmp) (v : Value) (t : Array Value) : ((#[p].zip #[v]).foldl (fun t (x : Tmp × Value) => match x with | (p, v) => t.setIfInBounds p v) t) = t.setIfInBounds p v := by simp
theorem fold_two (p q : Tmp) (v u : Value) (t : Array Value) : ((#[p, q].zip #[v, u]).foldl (fun t (x : Tmp × Value) => match x with | (p, v) => t.setIfInBounds p v) t) = (t.setIfInBounds p v).setIfInBounds q u := by simp
theorem res_bool {P : Program} {w : World} {fn : Func} {p : Tmp} {ty : TypeId} (hr : fn.results = #[.cell p ty]) (tmps : Array Value) (g : Nat) (tb : TypeId) (b : Bool) (ht : P.underlying ty = some .bool)
    (hp : tmps.getD p undef = .pointer (some ⟨g, 0, none⟩)) (hb : Blk w g tb #[.bool b]) : (results fn tmps).run P w = .ok (.bool b) w := by
  have hp' : tmps[p]?.getD undef = .pointer (some ⟨g, 0, none⟩) := by simpa using hp
  have hc : w.cell? ⟨g, 0, none⟩ = some (.bool b) := by rw [hb.cell]; rfl
  simp [results, hr, hp', asAddr, loadVar, isAgg, run_underlying ht, hc]
theorem wrap_u64_nn (x : Int) : 0 ≤ IntKind.u64.wrap x := by rw [wrap_u64]; omega
theorem calm_heap {B k : Nat} {W W' : World} {o : Obj} (hc : Calm B W W') (hk : k < B) (h : W.heap[k]? = some o) : W'.heap[k]? = some o := by
  obtain ⟨row, hg, hr⟩ := hc
  exact (hg.block k (Array.getElem?_eq_some_iff.1 h).1 (fun e => by have := (hr k e.symm).1; omega)).trans h
theorem zeroC : (Try.prog.info? 75).bind (·.zero) = some (.agg (arr8 (List.replicate 128 0))) := by kernel_rfl
theorem buildC (w : World) : (Instr.build 75 #[]).run Try.prog w = .ok (.agg (arr8 (List.replicate 128 0))) w := by kernel_rfl
theorem guardC : Try.prog.eqGuardType Try.prog.depth 75 = false := by kernel_rfl
theorem size_of8 (w : World) : (sizeOf 5).run Try.prog w = .ok 1 w := by kernel_rfl
theorem eqC (xs ys : List UInt8) (hx : xs.length = 128) (hy : ys.length = 128) (r : Bool) (hr : (xs == ys) = r) (w : World) : (Op.equalIn 10000 75 (.agg (arr8 xs)) (.agg (arr8 ys))).run Try.prog w = .ok r w := by
  rw [run_equalIn_arr8 w _ _ 128 Try.underlying75 Try.underlying5 size_of8 xs ys hx hy, hr]
theorem arr_off_run {P : Program} {T e : TypeId} {N : Nat} (hT : P.underlying T = some (.array N e)) (hs : ∀ W, (sizeOf e).run P W = .ok 1 W) (hN : 0 < N) (g off : Nat) (W : World) :
    (Instr.sliceAt T (.pointer (some ⟨g, off, none⟩)) none none none).run P W = .ok (.slice (some ⟨g, off, none⟩) N N) W := by
  have ea : P.arrayLen T = N := by simp [Program.arrayLen, hT]
  have ee : P.elem T = e := by simp [Program.elem, hT]
  have h := run_sliceAt_array_all (P := P) W T ⟨g, off, none⟩ (by rw [ea, ee]; exact hT)
  rw [h, ee, hs, ea]
  simp [Result.andThen, slicedAt, Addr.add]
theorem splice_blk {xs : List UInt8} (h : xs.length = 128) : splice (arr8 (List.replicate 128 0)) 0 ((xs.map b8).take (Nat.min 128 128 * 1)) = arr8 xs := by
  rw [List.take_of_length_le (by rw [List.length_map, h]; decide), splice_whole _ _ (by rw [List.length_map, h, size_arr8]; simp)]
  rfl
theorem blk_zero {z x M : Nat} (hz : z = 128 * M) (hx : x < M) : blkAt (List.replicate z 0) x = List.replicate 128 0 := by
  rw [blkAt, List.drop_replicate, List.take_replicate]
  congr 1
  omega
end Go.Proofs.Ytjjpifppdjpcnaa
