/-
  Several texts of plain lemmas and contracts, one behind the other: Of, OfUse.
-/
import Derived.Test.YtdifepfplfkfoaaDigB
import Derived.Test.YtdifepfplfkfoaaDigA
import Derived.Test.YtdifepfplfkfoaaBase

/-
  digest.Of: what digest a text of parts has.
-/
section
namespace Go.Proofs.Ytdifepfplfkfoaa
open Go.RowKit Go.Shelf
set_option linter.unusedVariables false
set_option maxRecDepth 100000
attribute [local go_sem] Oper.semAt_some

/-- The eight words behind k pieces. -/
def shaTo (bs : List UInt8) : Nat → List UInt32
  | 0 => H8
  | k + 1 => takeH (shaTo bs k) (sched (pieceAt bs k))
theorem len_shaTo (bs : List UInt8) (k : Nat) : (shaTo bs k).length = 8 := by
  induction k with
  | zero => rfl
  | succ k ih => rw [shaTo, len_takeH _ _ ih]
/-- Words as bytes. -/
def out8 (hs : List UInt32) : List UInt8 := (hs.map fun x => bigB x.toNat 4).flatten
theorem len_out8 (hs : List UInt32) : (out8 hs).length = 4 * hs.length := by
  induction hs with
  | nil => rfl
  | cons x hs ih =>
    have h : out8 (x :: hs) = bigB x.toNat 4 ++ out8 hs := rfl
    rw [h, List.length_append, ih, len_bigB, List.length_cons]; omega
theorem out8_snoc (hs : List UInt32) (x : UInt32) : out8 (hs ++ [x]) = out8 hs ++ bigB x.toNat 4 := by simp [out8]
def sha (bs : List UInt8) : List UInt8 := out8 (shaTo bs (pieceN bs.length))
theorem len_sha (bs : List UInt8) : (sha bs).length = 32 := by rw [sha, len_out8, len_shaTo]

def z8' (n : Nat) : List UInt8 := List.replicate n 0
theorem len_z8' (n : Nat) : (z8' n).length = n := by simp [z8']
theorem agg44 : AggT Try.prog 28 32 := ⟨⟨_, Try.underlying28, rfl⟩, by kernel_rfl⟩
theorem zero44 : (Try.prog.info? 28).bind (·.zero) = some (.agg (arr8 (z8' 32))) := by kernel_rfl
theorem zeroP34 : (Try.prog.info? 81).bind (·.zero) = some (.agg (arr8 (z8' 64))) := by kernel_rfl

theorem fold_one (p : Tmp) (v : Value) (t : Array Value) : ((#[p].zip #[v]).foldl (fun t (x : Tmp × Value) => match x with | (p, v) => t.setIfInBounds p v) t) = t.setIfInBounds p v := by simp
section
variable {P : Program} {o : Oper} {a : Act} {w : World} {K : Act → World → Prop} {Q : Exit → Act → World → Prop} {y : Array Bool}
theorem arm_load_blk {b : Bool} (hw : b = true) (T : TypeId) (x : Operand) (ho : o.op = .load T x) (g : Nat) (hx : a.eval x = .pointer (some ⟨g, 0, none⟩)) (vs : Array Value) {n : Nat} (hT : AggT P T n) (hn : vs.size = n) {t : TypeId} (hb : Blk w g t vs)
    (h : K (a.put o.dst (.agg vs)) w) : if b = true then o.wp P a w K Q else K (a.put o.dst undef) w := by
  rw [if_pos hw]
  exact wp_load_agg T x ho g 0 hx vs (hn ▸ hT) (fun j v hv => by rw [Nat.zero_add, hb.cell]; exact hv) h
theorem arm_store32 {b : Bool} (hw : b = true) (T : TypeId) (p x : Operand) (ho : o.op = .store T p x) (g : Nat) (hp : a.eval p = .pointer (some ⟨g, 0, none⟩)) (ws : List UInt32) (hx : a.eval x = .agg (arr32 ws)) {n : Nat} (hT : AggT P T n) (hn : ws.length = n)
    {t : TypeId} {cur : Array Value} (hb : Blk w g t cur) (hc : cur.size = n) (h : ∀ w', Blk w' g t (arr32 ws) → w.grownBy w' (some g) → w'.heap.size = w.heap.size → K (a.put o.dst undef) w') : if b = true then o.wp P a w K Q else K (a.put o.dst undef) w := by
  rw [if_pos hw]
  exact wp_store_agg T p x ho g 0 hp (ws.map b32) hx ((by simpa using hn : (ws.map b32).length = n) ▸ hT) t cur hb (by rw [List.length_map, hn, hc]; omega) (fun u hu => by obtain ⟨x, _, rfl⟩ := List.mem_map.1 hu; rfl) fun w' h1 h2 h3 =>
    h w' (by rw [splice_whole cur _ (by rw [List.length_map, hn, hc])] at h1; exact h1) h2 h3
end

theorem next_row (a b : List UInt8) (off k n : Nat) (ha : a.length = off) (hb : b.length = k) (h : off + k ≤ n) (r : Nat) (hr : r = n - (off + k)) : arr8 ((a ++ b) ++ z8' r) = splice (arr8 (a ++ z8' (n - off))) off (b.map b8) := by
  subst hr
  rw [splice8, hb]
  congr 1
  rw [List.take_append_of_le_length (by omega), List.take_of_length_le (by omega), List.drop_append, List.drop_of_length_le (by omega), List.nil_append, ha]
  congr 1
  rw [z8', z8', List.drop_replicate]
  congr 1
  omega

set_option maxHeartbeats 2000000 in
theorem of_c {w : World} {B : Nat} {A : Option Addr} {n c : Nat} (ps : List Part) (ha : Sl w B 1 A n c (ps.map Part.v)) (hB : B ≤ w.heap.size) (hps : ∀ p ∈ ps, SlB w B p.A p.n p.c p.bs) (ht : total ps ≤ 1099511627776) :
    Calls Try.prog 36 #[.slice A n c] w fun e w' => e = .returned (.agg (arr8 (sha (joined ps)))) ∧ Below w.heap.size w w' := by
  obtain ⟨tx, htx⟩ : ∃ tx, tx = joined ps := ⟨_, rfl⟩
  rw [← htx]
  have HTX := Lib.hid htx
  clear htx
  refine calls_of_wp_marks Try.func36 rfl ?_
  simp only [Try.ntmps36, List.size_toArray, List.length_cons, List.length_nil, Nat.reduceAdd, Nat.reduceSub, Array.replicate_succ, Array.replicate_zero, List.push_toArray, List.append_toArray, List.nil_append, List.cons_append]
  have b0 := Blk.new w 28 (arr8 (z8' 32))
  have hw0 : Below w.heap.size w (w.alloc (.cells (arr8 (z8' 32)) 28)) := (Below.refl _ _).alloc (Nat.le_refl _) _
  have HA := Lib.hid ha
  have HPS := Lib.hid hps
  have HT := Lib.hid ht
  have HB := Lib.hid hB
  clear ha hps ht hB
  go_wp2_with (first
    | ((with_reducible show wpList _ _ _ (Oper.mk _ (Op.alloc 28) _ _ _ _ :: _) _ _); refine wpList_alloc_agg rfl 28 rfl (arr8 (z8' 32)) zero44 ?_; (try rw [World.size_alloc]))
    | (go_at_call 51; refine (begin_c _).mono ?_; rintro e w1 ⟨rfl, hb1⟩; have b1 := Blk.new w1 88 (arr32 (z32 8)))
    | ((with_reducible show wpList _ _ _ (Oper.mk _ (Op.alloc 88) _ _ _ _ :: _) _ _); refine wpList_alloc_agg rfl 88 rfl (arr32 (z32 8)) zero26 ?_; (try rw [World.size_alloc]))
    | ((with_reducible show wpList _ _ _ (Oper.mk none (Op.store 88 _ _) _ _ _ _ :: _) _ _); refine wpList_store32 rfl 88 (.tmp 3) (.tmp 8) rfl w1.heap.size rfl H8 rfl agg26 len_H8 _ _ b1 (by rw [size_arr32, len_z32]) ?_; intro w2 hb2 hg2 hs2))
  have hz0 : w.heap.size ≤ (w.alloc (.cells (arr8 (z8' 32)) 28)).heap.size := hw0.size
  have hw1 : Below w.heap.size w w1 := hw0.trans (hb1.mono hz0)
  have C1 : Blk w1 w.heap.size 28 (arr8 (z8' 32)) := b0.below hb1 b0.lt
  have hz1 := hw1.size
  have hlt1 := C1.lt
  have hw2 : Below w.heap.size w w2 := (hw1.alloc hz1 _).grown hg2 (Nat.le_trans hz1 (by simp)) (fun k hk => by cases hk; exact hz1)
  have C2 : Blk w2 w.heap.size 28 (arr8 (z8' 32)) := (C1.alloc _).grown hg2 (by simp; omega)
  have hz2 := hw2.size
  have hs2' : w2.heap.size = w1.heap.size + 1 := by rw [hs2, World.size_alloc]
  have hh2 := hb2.lt
  obtain ⟨hb, hhb⟩ : ∃ hb, hb = w1.heap.size := ⟨_, rfl⟩
  rw [← hhb] at hb2 hh2 ⊢
  have hb0 : w.heap.size < hb := by rw [hhb]; exact hlt1
  clear b0 hw0 hb1 b1 hg2 hs2 hz0 hz1 hlt1 C1 hw1 hs2' hhb
  refine (concat_c ps (Sl.below HA.out (hw2.mono HB.out)) (Nat.le_trans HB.out hz2) (fun p hp => (HPS.out p hp).below (hw2.mono HB.out)) (Nat.le_trans HT.out (by decide))).mono ?_
  rintro e w3 ⟨A3, c3, rfl, h3, hb3⟩
  have D2 : Blk w3 hb 88 (arr32 H8) := hb2.below hb3 hh2
  have D0 : Blk w3 w.heap.size 28 (arr8 (z8' 32)) := C2.below hb3 C2.lt
  have hw3 : Below w.heap.size w w3 := hw2.trans (hb3.mono hz2)
  have hl3 : (joined ps).length = total ps := h3.len
  have htx := HTX.out
  obtain ⟨m, hm⟩ : ∃ m, m = total ps := ⟨_, rfl⟩
  rw [← htx, ← hm] at h3 hl3
  rw [← hm]
  have hmb : m ≤ 1099511627776 := by rw [hm]; exact HT.out
  clear htx HTX hm HA HPS HT HB hb3 C2 hb2 hh2 hw2 hz2
  go_wp2_with (go_at_call 52; refine (pieces_c _ _ _ _).mono ?_; rintro e w4 ⟨rfl, hw4⟩)
  have hp4 : Blk w4 w3.heap.size 22 #[.slice A3 m c3] := by rw [← hw4]; exact Blk.new _ _ _
  have h4 : SlB w4 w4.heap.size A3 m c3 tx := by rw [← hw4]; exact (h3.alloc _).sl
  have D2 : Blk w4 hb 88 (arr32 H8) := by rw [← hw4]; exact D2.alloc _
  have D0 : Blk w4 w.heap.size 28 (arr8 (z8' 32)) := by rw [← hw4]; exact D0.alloc _
  have hw4b : Below w.heap.size w w4 := by rw [← hw4]; exact hw3.alloc hw3.size _
  have hlb := D2.lt
  have hl0 := D0.lt
  clear hw4 h3 hw3
  go_wp2_with fail
  have own : ∀ (O' : Nat → Prop) (k : Nat), OwnFrom w4.heap.size (fun (_ : Unit) W' => O' hb ∧ ¬ O' w.heap.size ∧ Blk W' hb 88 (arr32 (shaTo tx k)) ∧ Blk W' w.heap.size 28 (arr8 (z8' 32)) ∧ Below w.heap.size w W') := fun O' k => ownFrom_of fun s X X' hs hc =>
    ⟨hs.1, hs.2.1, hc.blk hs.2.2.1, hc.blk hs.2.2.2.1, hc.below hs.2.2.2.2 hw4b.size (Nat.le_refl _)⟩
  refine wp_range (O := fun k => k = hb) (a := _) rfl (enters_of Try.func67 (by kernel_rfl) rfl) (pieces_iter hp4 h4 (Nat.le_refl _) hmb) (Below.refl _ _) (fun _ => rfl) (fun k hk => ⟨trivial, by rw [hk]; exact hlb⟩)
    (fun O' pre W' => O' hb ∧ ¬ O' w.heap.size ∧ Blk W' hb 88 (arr32 (shaTo tx pre.length)) ∧ Blk W' w.heap.size 28 (arr8 (z8' 32)) ∧ Below w.heap.size w W')
    (fun _ _ _ => False) (fun O' s X X' row hs => own O' s.length () X X' row hs) (fun _ _ _ _ _ h => h.elim) ⟨rfl, by omega, D2, D0, hw4b⟩
    (fun O' pre x a' W' => (O' hb ∧ ¬ O' w.heap.size ∧ Blk W' hb 88 (arr32 (shaTo tx pre.length)) ∧ Blk W' w.heap.size 28 (arr8 (z8' 32)) ∧ Below w.heap.size w W') ∧ x = pre.length ∧ x < pieceN m ∧
      ∃ gp, gp ≠ hb ∧ Blk W' gp 81 (arr8 (pieceAt tx x)) ∧ a' = { tmps := #[Value.slice A n c, undef, Value.pointer (some ⟨w.heap.size, 0, none⟩), Value.pointer (some ⟨hb, 0, none⟩), Value.pointer (some ⟨gp, 0, none⟩), undef, undef, undef, Value.agg (arr32 H8), Value.slice A n c, Value.slice A3 m c3,
        .func (.func 67) #[] #[.pointer (some ⟨w3.heap.size, 0, none⟩)], Value.agg (arr8 (pieceAt tx x)), undef, undef, undef, undef, undef, undef, undef, undef, undef, undef, undef, undef, undef, undef, undef, undef, undef, undef, undef, undef], defers := [] })
    (fun O' pre x a' => ownFrom_of fun s X X' hs hc => ⟨OwnFrom.calm (own O' pre.length) (s := ()) hs.1 hc, hs.2.1, hs.2.2.1, by obtain ⟨gp, h1, h2, h3⟩ := hs.2.2.2; exact ⟨gp, h1, hc.blk h2, h3⟩⟩) ?_ ?_ ?_ (fun _ _ _ _ _ _ h _ => h.elim)
  · rintro l' O' pre x W' K ⟨ho1, ho2, hbh, hbo, hbw⟩ ⟨hx1, hx2⟩ hK
    have hl64 : (pieceAt tx x).length = 64 := len_pieceAt _ _ (by rw [hl3]; exact hx2)
    have HX1 := Lib.hid hx1
    clear hx1
    refine wpIn_region_of (free_rd l') rfl (fun ⟨_, _, h⟩ => h) ?_
    simp only [fold_one, List.setIfInBounds_toArray, List.set_cons_succ, List.set_cons_zero]
    refine wpList_alloc_agg rfl 81 rfl (arr8 (z8' 64)) zeroP34 ?_
    refine wpList_store8 rfl 81 (.tmp 4) (.tmp 12) rfl W'.heap.size rfl (pieceAt tx x) rfl aggP64 hl64 _ _ (Blk.new _ _ _) (by rw [size_arr8, len_z8']) ?_
    intro W5 hb5 hg5 hs5
    have hbb : Below W'.heap.size W' W5 := ((Below.refl _ _).alloc (Nat.le_refl _) _).grown hg5 (by simp) (fun k hk => by cases hk; exact Nat.le_refl _)
    refine hK O' _ _ (Kept.below hbb) ⟨⟨ho1, ho2, hbh.below hbb hbh.lt, hbo.below hbb hbo.lt, hbw.trans (hbb.mono hbw.size)⟩, HX1.out, hx2, W'.heap.size, by have := hbh.lt; omega, hb5, ?_⟩
    rfl
  · rintro l' O' pre x a' W' ⟨⟨ho1, ho2, hbh, hbo, hbw⟩, hx1, hx2, gp, hgp, hbp, rfl⟩
    have hl64 : (pieceAt tx x).length = 64 := len_pieceAt _ _ (by rw [hl3]; exact hx2)
    have hl8 := len_shaTo tx pre.length
    have hl48 := len_sched (pieceAt tx x)
    have hnx : arr32 (shaTo tx (pre ++ [x]).length) = arr32 (takeH (shaTo tx pre.length) (sched (pieceAt tx x))) := by rw [List.length_append, List.length_cons, List.length_nil, Nat.zero_add, shaTo, ← hx1]
    obtain ⟨hs, hhs⟩ : ∃ hs, hs = shaTo tx pre.length := ⟨_, rfl⟩
    obtain ⟨pc, hpc⟩ : ∃ pc, pc = pieceAt tx x := ⟨_, rfl⟩
    rw [← hhs] at hl8 hbh
    rw [← hpc] at hl64 hbp hl48
    rw [← hhs, ← hpc] at hnx
    rw [← hpc]
    clear hhs hpc hx1
    gi_wp2
    refine wpIn_region_any_of (free_rd l') rfl (fun ⟨_, _, h⟩ => h) (by kernel_rfl) ?_
    have hV0 : Below W'.drew.heap.size W'.drew W'.drew := Below.refl _ _
    have hbh := hbh.drew
    have hbp := hbp.drew
    have fin : ∀ (W7 : World) (W6 : World), Blk W7 hb 88 (arr32 (takeH hs (sched pc))) → W6.grownBy W7 (some hb) → Below W'.drew.heap.size W'.drew W6 → ∃ O2, Kept O' O2 W' W7 ∧ O2 hb ∧ ¬ O2 w.heap.size ∧ Blk W7 hb 88 (arr32 (shaTo tx (pre ++ [x]).length)) ∧ Blk W7 w.heap.size 28 (arr8 (z8' 32)) ∧ Below w.heap.size w W7 := fun W7 W6 hb7 hg7 hV6 => by
      have hV : Below W'.heap.size W' W6 := (Below.refl _ _).drew.trans hV6
      have hk : Kept O' O' W' W7 := (Kept.below hV).trans (Kept.grown hg7 ho1)
      refine ⟨O', hk, ho1, ho2, by rw [hnx]; exact hb7, hk.blk hbo ho2, ?_⟩
      exact (hbw.trans (hV.mono hbw.size)).grown hg7 (Nat.le_trans hbw.size hV.size) (fun k hk => by cases hk; omega)
    show wpAny _ _ _ _ 5 #[false, false, false, false, false] ⟨#[Value.slice A n c, undef, Value.pointer (some ⟨w.heap.size, 0, none⟩), Value.pointer (some ⟨hb, 0, none⟩), Value.pointer (some ⟨gp, 0, none⟩), undef, undef, undef, Value.agg (arr32 H8), Value.slice A n c, Value.slice A3 m c3, .func (.func 67) #[] #[.pointer (some ⟨w3.heap.size, 0, none⟩)], Value.agg (arr8 pc), undef, undef, undef, undef, undef, undef, undef, undef, undef, undef, undef, undef, undef, undef, undef, undef, undef, undef, undef, undef], []⟩ _
    refine wpAny_ready (rs := [0, 1]) (by kernel_rfl) (by simp) ?_
    refine AllReady.cons rfl (fun K hK => ?_) (AllReady.cons rfl (fun K hK => ?_) (AllReady.nil))
    · skip
      refine arm_load_blk rfl 88 (.tmp 3) rfl hb rfl _ agg26 (by rw [size_arr32, hl8]) (hbh.below (by assumption) hbh.lt) (hK _ _ ?_)
      clear hK K
      show wpAny _ _ _ _ 4 #[true, false, false, false, false] ⟨#[Value.slice A n c, undef, Value.pointer (some ⟨w.heap.size, 0, none⟩), Value.pointer (some ⟨hb, 0, none⟩), Value.pointer (some ⟨gp, 0, none⟩), undef, undef, undef, Value.agg (arr32 H8), Value.slice A n c, Value.slice A3 m c3, .func (.func 67) #[] #[.pointer (some ⟨w3.heap.size, 0, none⟩)], Value.agg (arr8 pc), Value.agg (arr32 hs), undef, undef, undef, undef, undef, undef, undef, undef, undef, undef, undef, undef, undef, undef, undef, undef, undef, undef, undef], []⟩ _
      refine wpAny_ready (rs := [1]) (by kernel_rfl) (by simp) ?_
      refine AllReady.cons rfl (fun K hK => ?_) (AllReady.nil)
      refine arm_load_blk rfl 81 (.tmp 4) rfl gp rfl _ aggP64 (by rw [size_arr8, hl64]) (hbp.below (by assumption) hbp.lt) (hK _ _ ?_)
      clear hK K
      show wpAny _ _ _ _ 3 #[true, true, false, false, false] ⟨#[Value.slice A n c, undef, Value.pointer (some ⟨w.heap.size, 0, none⟩), Value.pointer (some ⟨hb, 0, none⟩), Value.pointer (some ⟨gp, 0, none⟩), undef, undef, undef, Value.agg (arr32 H8), Value.slice A n c, Value.slice A3 m c3, .func (.func 67) #[] #[.pointer (some ⟨w3.heap.size, 0, none⟩)], Value.agg (arr8 pc), Value.agg (arr32 hs), Value.agg (arr8 pc), undef, undef, undef, undef, undef, undef, undef, undef, undef, undef, undef, undef, undef, undef, undef, undef, undef, undef], []⟩ _
      refine wpAny_ready (rs := [2]) (by kernel_rfl) (by simp) ?_
      refine AllReady.cons rfl (fun K hK => ?_) (AllReady.nil)
      go_simp
      refine (schedule_c pc hl64 _).mono ?_
      rintro e W5 ⟨rfl, hb5⟩
      have hV5 := hV0.trans (hb5.mono hV0.size)
      refine hK _ _ ?_
      clear hK K
      show wpAny _ _ _ _ 2 #[true, true, true, false, false] ⟨#[Value.slice A n c, undef, Value.pointer (some ⟨w.heap.size, 0, none⟩), Value.pointer (some ⟨hb, 0, none⟩), Value.pointer (some ⟨gp, 0, none⟩), undef, undef, undef, Value.agg (arr32 H8), Value.slice A n c, Value.slice A3 m c3, .func (.func 67) #[] #[.pointer (some ⟨w3.heap.size, 0, none⟩)], Value.agg (arr8 pc), Value.agg (arr32 hs), Value.agg (arr8 pc), Value.agg (arr32 (sched pc)), undef, undef, undef, undef, undef, undef, undef, undef, undef, undef, undef, undef, undef, undef, undef, undef, undef], []⟩ _
      refine wpAny_ready (rs := [3]) (by kernel_rfl) (by simp) ?_
      refine AllReady.cons rfl (fun K hK => ?_) (AllReady.nil)
      go_simp
      refine (take_c hs (sched pc) hl8 hl48 _).mono ?_
      rintro e W6 ⟨rfl, hb6⟩
      have hV6 := hV5.trans (hb6.mono hV5.size)
      refine hK _ _ ?_
      clear hK K
      show wpAny _ _ _ _ 1 #[true, true, true, true, false] ⟨#[Value.slice A n c, undef, Value.pointer (some ⟨w.heap.size, 0, none⟩), Value.pointer (some ⟨hb, 0, none⟩), Value.pointer (some ⟨gp, 0, none⟩), undef, undef, undef, Value.agg (arr32 H8), Value.slice A n c, Value.slice A3 m c3, .func (.func 67) #[] #[.pointer (some ⟨w3.heap.size, 0, none⟩)], Value.agg (arr8 pc), Value.agg (arr32 hs), Value.agg (arr8 pc), Value.agg (arr32 (sched pc)), Value.agg (arr32 (takeH hs (sched pc))), undef, undef, undef, undef, undef, undef, undef, undef, undef, undef, undef, undef, undef, undef, undef, undef], []⟩ _
      refine wpAny_ready (rs := [4]) (by kernel_rfl) (by simp) ?_
      refine AllReady.cons rfl (fun K hK => ?_) (AllReady.nil)
      refine arm_store32 rfl 88 (.tmp 3) (.tmp 16) rfl hb rfl (takeH hs (sched pc)) rfl agg26 (len_takeH _ _ hl8) (hbh.below hV6 hbh.lt) (by rw [size_arr32, hl8]) ?_
      intro W7 hb7 hg7 hs7
      refine hK _ _ ?_
      clear hK K
      show wpAny _ _ _ _ 0 #[true, true, true, true, true] ⟨#[Value.slice A n c, undef, Value.pointer (some ⟨w.heap.size, 0, none⟩), Value.pointer (some ⟨hb, 0, none⟩), Value.pointer (some ⟨gp, 0, none⟩), undef, undef, undef, Value.agg (arr32 H8), Value.slice A n c, Value.slice A3 m c3, .func (.func 67) #[] #[.pointer (some ⟨w3.heap.size, 0, none⟩)], Value.agg (arr8 pc), Value.agg (arr32 hs), Value.agg (arr8 pc), Value.agg (arr32 (sched pc)), Value.agg (arr32 (takeH hs (sched pc))), undef, undef, undef, undef, undef, undef, undef, undef, undef, undef, undef, undef, undef, undef, undef, undef], []⟩ _
      refine ⟨by kernel_rfl, ?_⟩
      exact fin _ _ hb7 hg7 hV6
    · skip
      refine arm_load_blk rfl 81 (.tmp 4) rfl gp rfl _ aggP64 (by rw [size_arr8, hl64]) (hbp.below (by assumption) hbp.lt) (hK _ _ ?_)
      clear hK K
      show wpAny _ _ _ _ 4 #[false, true, false, false, false] ⟨#[Value.slice A n c, undef, Value.pointer (some ⟨w.heap.size, 0, none⟩), Value.pointer (some ⟨hb, 0, none⟩), Value.pointer (some ⟨gp, 0, none⟩), undef, undef, undef, Value.agg (arr32 H8), Value.slice A n c, Value.slice A3 m c3, .func (.func 67) #[] #[.pointer (some ⟨w3.heap.size, 0, none⟩)], Value.agg (arr8 pc), undef, Value.agg (arr8 pc), undef, undef, undef, undef, undef, undef, undef, undef, undef, undef, undef, undef, undef, undef, undef, undef, undef, undef], []⟩ _
      refine wpAny_ready (rs := [0, 2]) (by kernel_rfl) (by simp) ?_
      refine AllReady.cons rfl (fun K hK => ?_) (AllReady.cons rfl (fun K hK => ?_) (AllReady.nil))
      · skip
        refine arm_load_blk rfl 88 (.tmp 3) rfl hb rfl _ agg26 (by rw [size_arr32, hl8]) (hbh.below (by assumption) hbh.lt) (hK _ _ ?_)
        clear hK K
        show wpAny _ _ _ _ 3 #[true, true, false, false, false] ⟨#[Value.slice A n c, undef, Value.pointer (some ⟨w.heap.size, 0, none⟩), Value.pointer (some ⟨hb, 0, none⟩), Value.pointer (some ⟨gp, 0, none⟩), undef, undef, undef, Value.agg (arr32 H8), Value.slice A n c, Value.slice A3 m c3, .func (.func 67) #[] #[.pointer (some ⟨w3.heap.size, 0, none⟩)], Value.agg (arr8 pc), Value.agg (arr32 hs), Value.agg (arr8 pc), undef, undef, undef, undef, undef, undef, undef, undef, undef, undef, undef, undef, undef, undef, undef, undef, undef, undef], []⟩ _
        refine wpAny_ready (rs := [2]) (by kernel_rfl) (by simp) ?_
        refine AllReady.cons rfl (fun K hK => ?_) (AllReady.nil)
        go_simp
        refine (schedule_c pc hl64 _).mono ?_
        rintro e W5 ⟨rfl, hb5⟩
        have hV5 := hV0.trans (hb5.mono hV0.size)
        refine hK _ _ ?_
        clear hK K
        show wpAny _ _ _ _ 2 #[true, true, true, false, false] ⟨#[Value.slice A n c, undef, Value.pointer (some ⟨w.heap.size, 0, none⟩), Value.pointer (some ⟨hb, 0, none⟩), Value.pointer (some ⟨gp, 0, none⟩), undef, undef, undef, Value.agg (arr32 H8), Value.slice A n c, Value.slice A3 m c3, .func (.func 67) #[] #[.pointer (some ⟨w3.heap.size, 0, none⟩)], Value.agg (arr8 pc), Value.agg (arr32 hs), Value.agg (arr8 pc), Value.agg (arr32 (sched pc)), undef, undef, undef, undef, undef, undef, undef, undef, undef, undef, undef, undef, undef, undef, undef, undef, undef], []⟩ _
        refine wpAny_ready (rs := [3]) (by kernel_rfl) (by simp) ?_
        refine AllReady.cons rfl (fun K hK => ?_) (AllReady.nil)
        go_simp
        refine (take_c hs (sched pc) hl8 hl48 _).mono ?_
        rintro e W6 ⟨rfl, hb6⟩
        have hV6 := hV5.trans (hb6.mono hV5.size)
        refine hK _ _ ?_
        clear hK K
        show wpAny _ _ _ _ 1 #[true, true, true, true, false] ⟨#[Value.slice A n c, undef, Value.pointer (some ⟨w.heap.size, 0, none⟩), Value.pointer (some ⟨hb, 0, none⟩), Value.pointer (some ⟨gp, 0, none⟩), undef, undef, undef, Value.agg (arr32 H8), Value.slice A n c, Value.slice A3 m c3, .func (.func 67) #[] #[.pointer (some ⟨w3.heap.size, 0, none⟩)], Value.agg (arr8 pc), Value.agg (arr32 hs), Value.agg (arr8 pc), Value.agg (arr32 (sched pc)), Value.agg (arr32 (takeH hs (sched pc))), undef, undef, undef, undef, undef, undef, undef, undef, undef, undef, undef, undef, undef, undef, undef, undef], []⟩ _
        refine wpAny_ready (rs := [4]) (by kernel_rfl) (by simp) ?_
        refine AllReady.cons rfl (fun K hK => ?_) (AllReady.nil)
        refine arm_store32 rfl 88 (.tmp 3) (.tmp 16) rfl hb rfl (takeH hs (sched pc)) rfl agg26 (len_takeH _ _ hl8) (hbh.below hV6 hbh.lt) (by rw [size_arr32, hl8]) ?_
        intro W7 hb7 hg7 hs7
        refine hK _ _ ?_
        clear hK K
        show wpAny _ _ _ _ 0 #[true, true, true, true, true] ⟨#[Value.slice A n c, undef, Value.pointer (some ⟨w.heap.size, 0, none⟩), Value.pointer (some ⟨hb, 0, none⟩), Value.pointer (some ⟨gp, 0, none⟩), undef, undef, undef, Value.agg (arr32 H8), Value.slice A n c, Value.slice A3 m c3, .func (.func 67) #[] #[.pointer (some ⟨w3.heap.size, 0, none⟩)], Value.agg (arr8 pc), Value.agg (arr32 hs), Value.agg (arr8 pc), Value.agg (arr32 (sched pc)), Value.agg (arr32 (takeH hs (sched pc))), undef, undef, undef, undef, undef, undef, undef, undef, undef, undef, undef, undef, undef, undef, undef, undef], []⟩ _
        refine ⟨by kernel_rfl, ?_⟩
        exact fin _ _ hb7 hg7 hV6
      · skip
        go_simp
        refine (schedule_c pc hl64 _).mono ?_
        rintro e W5 ⟨rfl, hb5⟩
        have hV5 := hV0.trans (hb5.mono hV0.size)
        refine hK _ _ ?_
        clear hK K
        show wpAny _ _ _ _ 3 #[false, true, true, false, false] ⟨#[Value.slice A n c, undef, Value.pointer (some ⟨w.heap.size, 0, none⟩), Value.pointer (some ⟨hb, 0, none⟩), Value.pointer (some ⟨gp, 0, none⟩), undef, undef, undef, Value.agg (arr32 H8), Value.slice A n c, Value.slice A3 m c3, .func (.func 67) #[] #[.pointer (some ⟨w3.heap.size, 0, none⟩)], Value.agg (arr8 pc), undef, Value.agg (arr8 pc), Value.agg (arr32 (sched pc)), undef, undef, undef, undef, undef, undef, undef, undef, undef, undef, undef, undef, undef, undef, undef, undef, undef], []⟩ _
        refine wpAny_ready (rs := [0]) (by kernel_rfl) (by simp) ?_
        refine AllReady.cons rfl (fun K hK => ?_) (AllReady.nil)
        refine arm_load_blk rfl 88 (.tmp 3) rfl hb rfl _ agg26 (by rw [size_arr32, hl8]) (hbh.below (by assumption) hbh.lt) (hK _ _ ?_)
        clear hK K
        show wpAny _ _ _ _ 2 #[true, true, true, false, false] ⟨#[Value.slice A n c, undef, Value.pointer (some ⟨w.heap.size, 0, none⟩), Value.pointer (some ⟨hb, 0, none⟩), Value.pointer (some ⟨gp, 0, none⟩), undef, undef, undef, Value.agg (arr32 H8), Value.slice A n c, Value.slice A3 m c3, .func (.func 67) #[] #[.pointer (some ⟨w3.heap.size, 0, none⟩)], Value.agg (arr8 pc), Value.agg (arr32 hs), Value.agg (arr8 pc), Value.agg (arr32 (sched pc)), undef, undef, undef, undef, undef, undef, undef, undef, undef, undef, undef, undef, undef, undef, undef, undef, undef], []⟩ _
        refine wpAny_ready (rs := [3]) (by kernel_rfl) (by simp) ?_
        refine AllReady.cons rfl (fun K hK => ?_) (AllReady.nil)
        go_simp
        refine (take_c hs (sched pc) hl8 hl48 _).mono ?_
        rintro e W6 ⟨rfl, hb6⟩
        have hV6 := hV5.trans (hb6.mono hV5.size)
        refine hK _ _ ?_
        clear hK K
        show wpAny _ _ _ _ 1 #[true, true, true, true, false] ⟨#[Value.slice A n c, undef, Value.pointer (some ⟨w.heap.size, 0, none⟩), Value.pointer (some ⟨hb, 0, none⟩), Value.pointer (some ⟨gp, 0, none⟩), undef, undef, undef, Value.agg (arr32 H8), Value.slice A n c, Value.slice A3 m c3, .func (.func 67) #[] #[.pointer (some ⟨w3.heap.size, 0, none⟩)], Value.agg (arr8 pc), Value.agg (arr32 hs), Value.agg (arr8 pc), Value.agg (arr32 (sched pc)), Value.agg (arr32 (takeH hs (sched pc))), undef, undef, undef, undef, undef, undef, undef, undef, undef, undef, undef, undef, undef, undef, undef, undef], []⟩ _
        refine wpAny_ready (rs := [4]) (by kernel_rfl) (by simp) ?_
        refine AllReady.cons rfl (fun K hK => ?_) (AllReady.nil)
        refine arm_store32 rfl 88 (.tmp 3) (.tmp 16) rfl hb rfl (takeH hs (sched pc)) rfl agg26 (len_takeH _ _ hl8) (hbh.below hV6 hbh.lt) (by rw [size_arr32, hl8]) ?_
        intro W7 hb7 hg7 hs7
        refine hK _ _ ?_
        clear hK K
        show wpAny _ _ _ _ 0 #[true, true, true, true, true] ⟨#[Value.slice A n c, undef, Value.pointer (some ⟨w.heap.size, 0, none⟩), Value.pointer (some ⟨hb, 0, none⟩), Value.pointer (some ⟨gp, 0, none⟩), undef, undef, undef, Value.agg (arr32 H8), Value.slice A n c, Value.slice A3 m c3, .func (.func 67) #[] #[.pointer (some ⟨w3.heap.size, 0, none⟩)], Value.agg (arr8 pc), Value.agg (arr32 hs), Value.agg (arr8 pc), Value.agg (arr32 (sched pc)), Value.agg (arr32 (takeH hs (sched pc))), undef, undef, undef, undef, undef, undef, undef, undef, undef, undef, undef, undef, undef, undef, undef, undef], []⟩ _
        refine ⟨by kernel_rfl, ?_⟩
        exact fin _ _ hb7 hg7 hV6
  · rintro D O' xs W' hD rfl ⟨ho1, ho2, hbh, hbo, hbw⟩ hK
    have hl8 := len_shaTo tx (upTo (pieceN m)).length
    have hsh : sha tx = out8 (shaTo tx (upTo (pieceN m)).length) := by rw [len_upTo, sha, hl3]
    obtain ⟨hs, hhs⟩ : ∃ hs, hs = shaTo tx (upTo (pieceN m)).length := ⟨_, rfl⟩
    rw [← hhs] at hbh hl8 hsh
    have HSH := Lib.hid hsh
    have HL8 := Lib.hid hl8
    have hz := hbw.size
    have hDl := (Array.getElem?_eq_some_iff.1 hK).1
    have hol := hbo.lt
    clear hhs hsh hl8
    have b5 := Blk.new W' 28 (arr8 (z8' 32))
    have bh := hbh.alloc (.cells (arr8 (z8' 32)) 28)
    have bo := hbo.alloc (.cells (arr8 (z8' 32)) 28)
    have hw5 : Below w.heap.size w (W'.alloc (.cells (arr8 (z8' 32)) 28)) := hbw.alloc hz _
    have hD5 : (W'.alloc (.cells (arr8 (z8' 32)) 28)).heap[D]? = some (.deferred (some [])) := (Below.heap_alloc _ _ _ hDl).trans hK
    go_wp2_with (first
      | ((with_reducible show wpList _ _ _ (Oper.mk _ (Op.alloc 28) _ _ _ _ :: _) _ _); refine wpList_alloc_agg rfl 28 rfl (arr8 (z8' 32)) zero44 ?_; (try rw [World.size_alloc]); simp only [Act.put, List.setIfInBounds_toArray, List.set_cons_succ, List.set_cons_zero])
      | ((with_reducible show wpList _ _ _ (Oper.mk _ (Op.load 88 _) _ _ _ _ :: _) _ _); refine wpList_load_whole rfl 88 (.tmp 3) rfl hb rfl (arr32 hs) agg26 (by rw [size_arr32, HL8.out]) 88 bh ?_; simp only [Act.put, List.setIfInBounds_toArray, List.set_cons_succ, List.set_cons_zero]))
    have hgo : w.heap.size < W'.heap.size := hol
    clear hK hbh hbo hbw bh hol
    go_loopw [18] (fun v18 wr => ∃ i : Nat, i ≤ 8 ∧ v18 = .int .i64 (i : Int) ∧ Blk wr W'.heap.size 28 (arr8 (out8 (hs.take i) ++ z8' (32 - 4 * i))) ∧ Blk wr w.heap.size 28 (arr8 (z8' 32)) ∧ Below w.heap.size w wr ∧ wr.heap[D]? = some (.deferred (some []))) (fun v18 _ => 8 - (intOf v18).toNat)
    case atStart => exact ⟨0, by omega, rfl, b5, bo, hw5, hD5⟩
    case round =>
      clear b5 bo hw5 hD5
      obtain ⟨i, hi, rfl, C5, C0, hb, hD5⟩ := hrel
      have hz' := hb.size
      by_cases hlt : i < 8
      · have hK : i < hs.length := by rw [HL8.out]; exact hlt
        have hkw : (arr32 hs)[i]? = some (.int .u32 ((hs[i]?.getD 0).toNat : Int)) := by rw [arr32_get, List.getElem?_eq_getElem hK]; rfl
        have hnext : out8 (hs.take i) ++ bigB (hs[i]?.getD 0).toNat 4 = out8 (hs.take (i + 1)) := by
          rw [List.take_add_one, List.getElem?_eq_getElem hK, Option.toList_some, out8_snoc]; rfl
        obtain ⟨x, hx⟩ : ∃ x, x = hs[i]?.getD 0 := ⟨_, rfl⟩
        rw [← hx] at hkw hnext
        have hxl : x.toNat < 4294967296 := UInt32.toNat_lt x
        have hxl' : (x.toNat : Int) < 4294967296 := by omega
        have hx0 : (0 : Int) ≤ (x.toNat : Int) := by omega
        have hix := fun W => arr_index_run (P := Try.prog) Try.underlying88 Try.underlying87 size4 (arr32 hs) i hlt _ hkw W
        have hcut := arr_cut_run (P := Try.prog) (T := 28) Try.underlying28 size1 W'.heap.size (4 * i) (4 * i + 4) 4 (32 - 4 * i) (4 * (i : Int)) (4 * (i : Int) + 4) (by omega) (by omega) (by omega) (by omega) (by omega) (by omega) rfl
        have HN := Lib.hid hnext
        have HC5 := Lib.hid C5
        have HC0 := Lib.hid C0
        have HBw := Lib.hid hb
        have HD := Lib.hid hD5
        have hi0 : (0 : Int) ≤ (i : Int) := by omega
        have hi1 : (i : Int) < 8 := by omega
        clear hx hkw hnext C5 C0 hb hD5 hK
        go_wp2_with (go_at_call 56; refine (putBig_c HC5.out (by rw [size_arr8, List.length_append, len_out8, len_z8', List.length_take, HL8.out]; omega) (by omega) (by omega)).mono ?_; rintro e W6 ⟨rfl, hb6, hg6, hs6⟩)
        have hnew : arr8 (out8 (hs.take (i + 1)) ++ z8' (32 - 4 * (i + 1))) = splice (arr8 (out8 (hs.take i) ++ z8' (32 - 4 * i))) (4 * i) ((bigB x.toNat 4).map b8) := by
          rw [← HN.out]
          exact next_row _ _ (4 * i) 4 32 (by rw [len_out8, List.length_take, HL8.out]; omega) (len_bigB _ _) (by omega) _ (by omega)
        have hDlt : D < wr.heap.size := (Array.getElem?_eq_some_iff.1 HD.out).1
        have hDw : D ≠ W'.heap.size := by omega
        refine ⟨⟨i + 1, by omega, by go_num, by rw [hnew]; exact hb6, HC0.out.grown hg6 (by simp; omega), HBw.out.grown hg6 hz' (fun k hk => by cases hk; exact hz), (hg6.block D hDlt (by simp; omega)).trans HD.out⟩, by simp [intOf]; omega⟩
      · obtain rfl : i = 8 := by omega
        have hfull : out8 (hs.take 8) ++ z8' (32 - 4 * 8) = sha tx := by rw [List.take_of_length_le (by rw [HL8.out]; omega), HSH.out]; simp [z8']
        rw [hfull] at C5
        have HD := Lib.hid hD5
        have HBw := Lib.hid hb
        have hls := len_sha tx
        obtain ⟨res, hres⟩ : ∃ res, res = sha tx := ⟨_, rfl⟩
        rw [← hres] at C5 hls
        have HRS := Lib.hid hres
        clear hD5 hb hfull hres
        go_wp2_with (first
          | ((with_reducible show wpList _ _ _ (Oper.mk _ (Op.load 28 _) _ _ _ _ :: _) _ _); refine wpList_load_whole rfl 28 (.tmp 5) rfl W'.heap.size rfl (arr8 res) agg44 (by rw [size_arr8, hls]) 28 C5 ?_; simp only [Act.put, List.setIfInBounds_toArray, List.set_cons_succ, List.set_cons_zero])
          | ((with_reducible show wpList _ _ _ (Oper.mk none (Op.store 28 _ _) _ _ _ _ :: _) _ _); refine wpList_store8 rfl 28 (.tmp 2) (.tmp 32) rfl w.heap.size rfl res rfl agg44 hls _ _ C0 (by rw [size_arr8, len_z8']) ?_; intro W8 hb8 hg8 hs8; simp only [Act.put]))
        have hDlt : D < wr.heap.size := (Array.getElem?_eq_some_iff.1 HD.out).1
        have hD8 : W8.heap[D]? = some (.deferred (some [])) := (hg8.block D hDlt (by simp; omega)).trans HD.out
        have hw8 : Below w.heap.size w W8 := HBw.out.grown hg8 hz' (fun k hk => by cases hk; exact Nat.le_refl _)
        refine ⟨by simp, .inl ⟨_, _, rfl, run_takeDeferred hD8, ?_⟩⟩
        refine ⟨_, results_cell_one (n := 32) rfl _ w.heap.size 28 (arr8 res) agg44 (by rw [size_arr8, hls]) rfl (World.putObj_heap_other (by omega) |>.trans hb8), ?_⟩
        rw [HRS.out]
        refine ⟨rfl, ?_⟩
        exact (calm_putObj (B := w.heap.size) _ (Nat.le_of_lt (Nat.lt_of_lt_of_le hl0 hD)) hD8 rfl).below hw8 (Nat.le_refl _) (Nat.le_refl _)
end Go.Proofs.Ytdifepfplfkfoaa
end

/-
  digest.Of as the statements call it: of nothing, of one part; two digests compared.
-/
section
namespace Go.Proofs.Ytdifepfplfkfoaa
open Go.RowKit
set_option linter.unusedVariables false
set_option maxRecDepth 100000

theorem sha_nil0 : (sha [])[0]? = some 227 := by decide +kernel
theorem sha_nil31 : (sha [])[31]? = some 85 := by decide +kernel
theorem guard44 : Try.prog.eqGuardType Try.prog.depth 28 = false := by kernel_rfl
theorem eq44 (xs ys : List UInt8) (hx : xs.length = 32) (hy : ys.length = 32) (r : Bool) (hr : (xs == ys) = r) (w : World) : (Op.equalIn 10000 28 (.agg (arr8 xs)) (.agg (arr8 ys))).run Try.prog w = .ok r w := by
  rw [run_equalIn_arr8 w _ _ 32 Try.underlying28 Try.underlying5 size1 xs ys hx hy, hr]
theorem index44 (xs : List UInt8) (i : Nat) (hi : i < 32) (x : UInt8) (hx : xs[i]? = some x) (w : World) : (Instr.index 28 (.agg (arr8 xs)) (.int .i64 (i : Int))).run Try.prog w = .ok (.int .u8 (x.toNat : Int)) w :=
  arr_index_run Try.underlying28 Try.underlying5 size1 (arr8 xs) i hi _ (by rw [arr8_get, hx]; rfl) w

theorem nil0 (w : World) : (Instr.index 28 (.agg (arr8 (sha []))) (.int .i64 0)).run Try.prog w = .ok (.int .u8 227) w := index44 (sha []) 0 (by omega) 227 sha_nil0 w
theorem nil31 (w : World) : (Instr.index 28 (.agg (arr8 (sha []))) (.int .i64 31)).run Try.prog w = .ok (.int .u8 85) w := index44 (sha []) 31 (by omega) 85 sha_nil31 w

theorem of_nil (w : World) : Calls Try.prog 36 #[.slice none 0 0] w fun e w' => e = .returned (.agg (arr8 (sha []))) ∧ Below w.heap.size w w' :=
  of_c (B := w.heap.size) [] ⟨rfl, Nat.le_refl _, by simp [maxLen], fun h => absurd h (by omega)⟩ (Nat.le_refl _) (fun p hp => by simp at hp) (by simp [total])

/-- One part, its slice of slices just laid. -/
theorem of_one {w : World} {B : Nat} {A : Option Addr} {n c : Nat} {bs : List UInt8} (ha : SlB w B A n c bs) (hB : B ≤ w.heap.size) (hn : n ≤ 1099511627776) :
    Calls Try.prog 36 #[.slice (some ⟨w.heap.size, 0, none⟩) 1 1] (w.alloc (.cells #[.slice A n c] 22)) fun e w' => e = .returned (.agg (arr8 (sha bs))) ∧ Below w.heap.size w w' := by
  have hb : Below w.heap.size w (w.alloc (.cells #[.slice A n c] 22)) := (Below.refl _ _).alloc (Nat.le_refl _) _
  have h := of_c (w := w.alloc (.cells #[.slice A n c] 22)) (B := w.heap.size + 1) (A := some ⟨w.heap.size, 0, none⟩) (n := 1) (c := 1) [⟨A, n, c, bs⟩]
    ⟨rfl, Nat.le_refl _, by simp [maxLen], fun _ => ⟨w.heap.size, 0, rfl, by simp, fun j u hu => by
      rw [(Blk.new w 22 #[.slice A n c]).cell, Nat.zero_add]
      simpa [Part.v] using hu⟩⟩ (by simp) (fun p hp => by
      simp only [List.mem_cons, List.not_mem_nil, or_false] at hp
      subst hp
      exact SlB.more (ha.alloc hB _) (by omega)) (by simp [total]; omega)
  refine h.mono ?_
  rintro e w' ⟨rfl, hb'⟩
  exact ⟨by simp [joined], hb.trans (hb'.mono hb.size)⟩
end Go.Proofs.Ytdifepfplfkfoaa
end
