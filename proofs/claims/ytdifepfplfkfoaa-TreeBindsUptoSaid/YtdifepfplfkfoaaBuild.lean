/-
  tree.Build: the tree over leaves.
-/
import Derived.Test.YtdifepfplfkfoaaConcatS
namespace Go.Proofs.Ytdifepfplfkfoaa
open Go.RowKit
set_option linter.unusedVariables false
set_option linter.unusedSimpArgs false
set_option maxRecDepth 100000

/-- A tree with another digest at a place. -/
def putS (xs : List UInt8) (i : Nat) (s : List UInt8) : List UInt8 := xs.take (32 * i) ++ s ++ xs.drop (32 * i + 32)
theorem len_putS {xs s : List UInt8} {n i : Nat} (h : xs.length = n * 32) (hi : i < n) (hs : s.length = 32) : (putS xs i s).length = n * 32 := by
  simp only [putS, List.length_append, List.length_take, List.length_drop, hs, h]; omega
theorem putS_get {xs s : List UInt8} {n i : Nat} (h : xs.length = n * 32) (hi : i < n) (hs : s.length = 32) (k : Nat) : (putS xs i s)[k]? = if 32 * i ≤ k ∧ k < 32 * i + 32 then s[k - 32 * i]? else xs[k]? := by
  have h1 : (xs.take (32 * i)).length = 32 * i := by rw [List.length_take, h]; omega
  rw [putS, List.append_assoc]
  by_cases hk : k < 32 * i
  · rw [if_neg (by omega), List.getElem?_append_left (by omega), List.getElem?_take, if_pos hk]
  · rw [List.getElem?_append_right (by omega), h1]
    by_cases hk2 : k < 32 * i + 32
    · rw [if_pos (by omega), List.getElem?_append_left (by omega)]
    · rw [if_neg (by omega), List.getElem?_append_right (by omega), hs, List.getElem?_drop]
      congr 1; omega
theorem elt_putS {xs s : List UInt8} {n i : Nat} (h : xs.length = n * 32) (hi : i < n) (hs : s.length = 32) (j : Nat) : elt (putS xs i s) j = if j = i then s else elt xs j := by
  apply List.ext_getElem?
  intro k
  by_cases hk : k < 32
  · rw [elt, List.getElem?_take, if_pos hk, List.getElem?_drop, putS_get h hi hs]
    split
    · subst_vars
      rename_i hj
      obtain rfl : j = i := by omega
      rw [if_pos rfl]; congr 1; omega
    · rename_i hj
      rw [if_neg (by omega), elt, List.getElem?_take, if_pos hk, List.getElem?_drop]
  · have e1 : ∀ ys : List UInt8, (elt ys j)[k]? = none := fun ys => List.getElem?_eq_none (by rw [elt, List.length_take]; omega)
    rw [e1]
    split
    · exact (List.getElem?_eq_none (by omega)).symm
    · exact (e1 _).symm

/-- A digest is stored into a row of the call's own. -/
theorem OwS.put {w w' : World} {base g n c i : Nat} {xs s : List UInt8} (h : OwS w base (some ⟨g, 0, none⟩) n c xs) (hi : i < n) (hs : s.length = 32)
    (hb : ∀ t cur, Blk w g t cur → i * 32 + 32 ≤ cur.size → Blk w' g t (splice cur (i * 32) (s.map b8))) : OwS w' base (some ⟨g, 0, none⟩) n c (putS xs i s) := by
  have hl := h.len
  have hle := h.le
  obtain ⟨g', cur, e, hg, hbk, hsz, ht⟩ := h.2.2.2 (by omega)
  simp only [Option.some.injEq, Addr.mk.injEq, and_true] at e
  subst e
  refine ⟨by rw [List.length_map, len_putS hl hi hs], hle, h.2.2.1, fun _ => ⟨g, _, rfl, hg, hb _ _ hbk (by omega), by rw [size_splice _ _ _ (by rw [List.length_map, hs]; omega)]; exact hsz, ?_⟩⟩
  have hcl : cur.toList.length = cur.size := by simp
  have h1 : cur.toList.take (i * 32) = (xs.take (32 * i)).map b8 := by rw [List.map_take, ← ht, List.take_take]; congr 1; omega
  have h2 : (cur.toList.drop (i * 32 + 32)).take (n * 32 - (i * 32 + 32)) = (xs.drop (32 * i + 32)).map b8 := by rw [List.map_drop, ← ht, List.drop_take, show 32 * i + 32 = i * 32 + 32 by omega]
  have h3 : (List.take (i * 32) cur.toList ++ List.map b8 s).length = i * 32 + 32 := by rw [h1]; simp [hs, hl]; omega
  simp only [splice, List.length_map, hs]
  rw [List.take_append, h3, h2, List.take_of_length_le (by omega), h1]
  simp [putS]
theorem OwS.blk {w : World} {base g n c : Nat} {xs : List UInt8} (h : OwS w base (some ⟨g, 0, none⟩) n c xs) (hn : 0 < n) : ∃ t cur, Blk w g t cur ∧ n * 32 ≤ cur.size := by
  have hle := h.le
  obtain ⟨g', cur, e, hg, hbk, hsz, ht⟩ := h.2.2.2 (by omega)
  simp only [Option.some.injEq, Addr.mk.injEq, and_true] at e
  subst e
  exact ⟨_, cur, hbk, by omega⟩
theorem OwS.lt {w : World} {base g n c : Nat} {xs : List UInt8} (h : OwS w base (some ⟨g, 0, none⟩) n c xs) (hn : 0 < n) : g < w.heap.size := by
  obtain ⟨t, cur, hb, _⟩ := h.blk hn
  exact hb.lt
theorem OwS.elt_ {w : World} {base g n c : Nat} {xs : List UInt8} (h : OwS w base (some ⟨g, 0, none⟩) n c xs) {i : Nat} (hi : i < n) : ∀ j v, (arr8 (elt xs i))[j]? = some v → w.cell? ⟨g, i * 32 + j, none⟩ = some v := by
  obtain ⟨b, off, e, hb, hj⟩ := h.sl.at_ (by have := h.le; omega)
  simp only [Option.some.injEq, Addr.mk.injEq, and_true] at e
  obtain ⟨rfl, rfl⟩ := e
  intro j v hv
  have := hj i hi j v hv
  simpa using this

theorem wpList_storeS {P : Program} {ops : Array Oper} {rest : List Oper} {o : Oper} {a : Act} {Q : Exit → Act → World → Prop} {w : World} (hw : Region.wanted o (yielded ops a.tmps) = true) (T : TypeId) (p x : Operand) (ho : o.op = .store T p x) (g i : Nat) (hp : a.eval p = .pointer (some ⟨g, i * 32, none⟩)) (s : List UInt8) (hx : a.eval x = .agg (arr8 s)) (hT : AggT P T 32) (hs : s.length = 32)
    {base n c : Nat} {xs : List UInt8} (h : OwS w base (some ⟨g, 0, none⟩) n c xs) (hi : i < n)
    (hk : ∀ w', OwS w' base (some ⟨g, 0, none⟩) n c (putS xs i s) → w.grownBy w' (some g) → w'.heap.size = w.heap.size → wpList P ops Q rest (a.put o.dst undef) w') : wpList P ops Q (o :: rest) a w := by
  obtain ⟨t, cur, hb, hsz⟩ := h.blk (by omega)
  refine BigFrame.wpList_want hw fun _ hK => ?_
  refine wp_store_agg T p x ho g (i * 32) hp (s.map b8) hx ((by simpa using hs : (s.map b8).length = 32) ▸ hT) t cur hb (by rw [List.length_map, hs]; omega) (b8_one _) fun w' h1 h2 h3 => hK _ _ (hk w' (h.put hi hs fun t' cur' hb' hsz' => ?_) h2 h3)
  have e1 : some (Obj.cells cur' t' (0, 0)) = some (Obj.cells cur t (0, 0)) := (show w.heap[g]? = _ from hb').symm.trans hb
  simp only [Option.some.injEq, Obj.cells.injEq, and_true] at e1
  obtain ⟨rfl, rfl⟩ := e1
  exact h1

def zs16 : List UInt8 := List.replicate 512 0
theorem len_zs16 : zs16.length = 512 := by simp [zs16]
/-- The tree behind k steps from the last node down. -/
def tr (key leaves : List UInt8) : Nat → List UInt8
  | 0 => zs16 ++ leaves
  | k + 1 => putS (tr key leaves k) (15 - k) (joinOf key ((15 - k : Nat) : Int) (elt (tr key leaves k) (2 * (15 - k))) (elt (tr key leaves k) (2 * (15 - k) + 1)))
theorem len_tr {key leaves : List UInt8} (h : leaves.length = 16 * 32) (k : Nat) : (tr key leaves k).length = 32 * 32 := by
  induction k with
  | zero => simp [tr, h, len_zs16]
  | succ k ih => rw [tr, len_putS ih (by omega) (len_joinOf _ _ _ _)]
/-- The tree over leaves. -/
def buildT (key leaves : List UInt8) : List UInt8 := tr key leaves 15
theorem len_buildT {key leaves : List UInt8} (h : leaves.length = 16 * 32) : (buildT key leaves).length = 32 * 32 := len_tr h 15
theorem tr_keep {key leaves : List UInt8} (h : leaves.length = 16 * 32) {k j : Nat} (hj : 16 ≤ j + k) : ∀ d, k + d ≤ 15 → elt (tr key leaves (k + d)) j = elt (tr key leaves k) j := by
  intro d
  induction d with
  | zero => intro _; rfl
  | succ d ih =>
    intro hd
    rw [← Nat.add_assoc, tr, elt_putS (len_tr h _) (by omega) (len_joinOf _ _ _ _), if_neg (by omega)]
    exact ih (by omega)
theorem build_node {key leaves : List UInt8} (h : leaves.length = 16 * 32) {i : Nat} (h1 : 1 ≤ i) (h2 : i < 16) : elt (buildT key leaves) i = joinOf key (i : Int) (elt (buildT key leaves) (2 * i)) (elt (buildT key leaves) (2 * i + 1)) := by
  obtain ⟨k, hk⟩ : ∃ k, i = 15 - k ∧ k ≤ 14 := ⟨15 - i, by omega, by omega⟩
  obtain ⟨rfl, hk⟩ := hk
  have e1 := tr_keep (key := key) h (k := k + 1) (j := 15 - k) (by omega) (15 - (k + 1)) (by omega)
  have e2 := tr_keep (key := key) h (k := k) (j := 2 * (15 - k)) (by omega) (15 - k) (by omega)
  have e3 := tr_keep (key := key) h (k := k) (j := 2 * (15 - k) + 1) (by omega) (15 - k) (by omega)
  rw [show k + 1 + (15 - (k + 1)) = 15 by omega] at e1
  rw [show k + (15 - k) = 15 by omega] at e2 e3
  rw [buildT, e1, e2, e3, tr, elt_putS (len_tr h _) (by omega) (len_joinOf _ _ _ _), if_pos rfl]
theorem build_leaf {key leaves : List UInt8} (h : leaves.length = 16 * 32) {j : Nat} (hj : j < 16) : elt (buildT key leaves) (16 + j) = elt leaves j := by
  have e1 := tr_keep (key := key) h (k := 0) (j := 16 + j) (by omega) 15 (by omega)
  rw [buildT, show 15 = 0 + 15 by omega, e1, tr, elt, elt, List.drop_append, len_zs16, List.drop_of_length_le (by rw [len_zs16]; omega), List.nil_append, show 32 * (16 + j) - 512 = 32 * j by omega]
theorem build_zero {key leaves : List UInt8} (h : leaves.length = 16 * 32) : elt (buildT key leaves) 0 = noS := by
  have : ∀ k, k ≤ 15 → elt (tr key leaves k) 0 = noS := by
    intro k
    induction k with
    | zero => intro _; rw [tr, elt, Nat.mul_zero, List.drop_zero, List.take_append_of_le_length (by simp [len_zs16])]; rfl
    | succ k ih => intro hk; rw [tr, elt_putS (len_tr h _) (by omega) (len_joinOf _ _ _ _), if_neg (by omega)]; exact ih (by omega)
  exact this 15 (by omega)

theorem made16 : madeCells (Value.cells (.agg (arr8 (z8' 32)))) (16 * 32) = arr8 (zs16) := by kernel_rfl
theorem make16 (W : World) : (Instr.makeSlice 51 (.int .i64 16) (.int .i64 16)).run Try.prog W = .ok (.slice (some ⟨W.heap.size, 0, none⟩) 16 16) (W.alloc (.cells (arr8 (zs16)) 28)) := by
  obtain ⟨i, hi, hz⟩ : ∃ i, Try.prog.info? 28 = some i ∧ (i.size, i.bytes) = (32, 32) := by
    have h := sums_info
    cases hh : Try.prog.info? 28 with
    | none => rw [hh] at h; cases h
    | some i => rw [hh] at h; exact ⟨i, rfl, by simpa using h⟩
  have hz0 := zero44
  rw [hi] at hz0
  simp only [Prod.mk.injEq] at hz
  obtain ⟨hz1, hz2⟩ := hz
  simp only [Option.bind_some] at hz0
  have hr := run_make_rowN (P := Try.prog) 51 28 i _ Try.underlying51 hi hz0 .i64 .i64 16 16 (Nat.le_refl _) (by rw [hz2]; omega) (by omega) W
  rw [hz1, made16] at hr
  exact hr

set_option maxHeartbeats 4000000 in
theorem build_c {w : World} {B B' : Nat} {A A' : Option Addr} {n c c' : Nat} {key leaves : List UInt8} (hk : SlB w B A n c key) (hB : B ≤ w.heap.size) (hn : n ≤ 1099511627776) (hl : SlS w B' A' 16 c' leaves) (hB' : B' ≤ w.heap.size) :
    Calls Try.prog 24 #[.slice A n c, .slice A' 16 c'] w fun e w' => ∃ g c2, e = .returned (.tuple #[.slice (some ⟨g, 0, none⟩) 32 c2, .nilIface]) ∧ OwS w' w.heap.size (some ⟨g, 0, none⟩) 32 c2 (buildT key leaves) ∧ Below w.heap.size w w' := by
  have hll : leaves.length = 16 * 32 := hl.len
  have hz16 : SlS (w.alloc (.cells (arr8 (zs16)) 28)) (w.heap.size + 1) (some ⟨w.heap.size, 0, none⟩) 16 16 (zs16) :=
    ⟨by simp [len_zs16], Nat.le_refl _, by simp [maxLen], fun _ => ⟨w.heap.size, 0, rfl, by simp, fun j u hu => by
      rw [(Blk.new w 28 (arr8 (zs16))).cell, Nat.zero_add]
      simpa [arr8] using hu⟩⟩
  have hmk := make16
  obtain ⟨v, hv⟩ : ∃ v, v = w.alloc (.cells (arr8 (zs16)) 28) := ⟨_, rfl⟩
  have hbv : Below w.heap.size w v := by rw [hv]; exact below_alloc _ _
  rw [← hv] at hz16
  have hzv : v.heap.size = w.heap.size + 1 := by rw [hv, World.size_alloc]
  have hz0 := hbv.size
  have HV := Lib.hid hv
  have HZV := Lib.hid hzv
  have hps : ∀ (W : World), Below v.heap.size v W → ∀ p ∈ ([⟨some ⟨w.heap.size, 0, none⟩, 16, 16, zs16⟩, ⟨A', 16, c', leaves⟩] : List Part), SlS W W.heap.size p.A p.n p.c p.bs := fun W hW p hp => by
    simp only [List.mem_cons, List.not_mem_nil, or_false] at hp
    rcases hp with rfl | rfl
    · exact (hz16.below (hW.mono (by omega))).more (by have := hW.size; omega)
    · exact ((hl.below (hbv.mono hB')).below (hW.mono (by omega))).more (by have := hW.size; omega)
  have HPS := Lib.hid hps
  have HK := Lib.hid hk
  have HL := Lib.hid hll
  have hjn : joined ([⟨some ⟨w.heap.size, 0, none⟩, 16, 16, zs16⟩, ⟨A', 16, c', leaves⟩] : List Part) = tr key leaves 0 := by simp [joined, tr]
  have HJN := Lib.hid hjn
  have HTT := Lib.hid (show total ([⟨some ⟨w.heap.size, 0, none⟩, 16, 16, zs16⟩, ⟨A', 16, c', leaves⟩] : List Part) = 32 from by simp [total])
  clear hk hl hv hz16 hps hll hjn hzv
  go_enter Try.func24, Try.ntmps24
  go_wp2_with (go_at_call 40; rw [← HV.out, ← HZV.out]; refine (concatS_c (B := (v.alloc (.cells #[.slice (some ⟨w.heap.size, 0, none⟩) 16 16, .slice A' 16 c'] 51)).heap.size) [⟨some ⟨w.heap.size, 0, none⟩, 16, 16, zs16⟩, ⟨A', 16, c', leaves⟩] ⟨rfl, Nat.le_refl _, by simp [maxLen], fun _ => ⟨v.heap.size, 0, rfl, by simp, fun j u hu => by
      rw [(Blk.new v 51 #[.slice (some ⟨w.heap.size, 0, none⟩) 16 16, .slice A' 16 c']).cell, Nat.zero_add]
      simpa [Part.v] using hu⟩⟩ (Nat.le_refl _) (HPS.out _ (below_alloc _ _)) (by simp [total])).mono ?_; rintro e v2 ⟨A2, c2, rfl, h2, hb2⟩; rw [HJN.out, HTT.out] at h2; rw [HTT.out])
  have hv2 : Below w.heap.size w v2 := hbv.trans (((below_alloc v _).trans (hb2.mono (by simp))).mono hz0)
  obtain ⟨g, rfl, hgb⟩ : ∃ g, A2 = some ⟨g, 0, none⟩ ∧ w.heap.size ≤ g := by
    obtain ⟨g, cur, e, hg, _⟩ := h2.2.2.2 (by have := h2.le; omega)
    exact ⟨g, e, by rw [World.size_alloc] at hg; omega⟩
  have h3 : OwS v2 w.heap.size (some ⟨g, 0, none⟩) 32 c2 (tr key leaves 0) := Row.base_le h2 (by rw [World.size_alloc]; omega)
  have hc2 := h2.le
  have hc3 := h2.cap
  have H3 := Lib.hid h3
  clear h2 h3 hb2 hmk
  go_loopw [7] (fun v7 wr => ∃ (i k : Nat), k ≤ 15 ∧ i = 15 - k ∧ v7 = .int .i64 (i : Int) ∧ OwS wr w.heap.size (some ⟨g, 0, none⟩) 32 c2 (tr key leaves k) ∧ Below w.heap.size w wr) (fun v7 _ => (intOf v7).toNat)
  case atStart => exact ⟨15, 0, by omega, rfl, rfl, H3.out, hv2⟩
  case round =>
    clear H3 hv2
    obtain ⟨i, k, hk, hik, rfl, h3, hw⟩ := hrel
    have hz := hw.size
    by_cases h0 : 0 < i
    · have hii : (0 : Int) < (i : Int) := by omega
      have hi15 : (i : Int) ≤ 15 := by omega
      obtain ⟨L, hL⟩ : ∃ L, L = 2 * i := ⟨_, rfl⟩
      obtain ⟨M, hM⟩ : ∃ M, M = L + 1 := ⟨_, rfl⟩
      have hLi : 2 * (i : Int) = (L : Int) := by omega
      have hMi : (L : Int) + 1 = (M : Int) := by omega
      have hL32 : (L : Int) < 32 := by omega
      have hM32 : (M : Int) < 32 := by omega
      have hL0 : (0 : Int) ≤ (L : Int) := by omega
      have hM0 : (0 : Int) ≤ (M : Int) := by omega
      have hi32 : (i : Int) < 32 := by omega
      have hi0 : (0 : Int) ≤ (i : Int) := by omega
      have hlt := len_tr (key := key) HL.out k
      have heL := len_elt hlt (i := L) (by omega)
      have heM := len_elt hlt (i := M) (by omega)
      have dL := Lib.hid (h3.elt_ (i := L) (by omega))
      have dM := Lib.hid (h3.elt_ (i := M) (by omega))
      have hg := h3.lt (by omega)
      obtain ⟨x, hx⟩ : ∃ x, x = elt (tr key leaves k) L := ⟨_, rfl⟩
      obtain ⟨y, hy⟩ : ∃ y, y = elt (tr key leaves k) M := ⟨_, rfl⟩
      obtain ⟨jj, hjj⟩ : ∃ jj, jj = joinOf key (i : Int) x y := ⟨_, rfl⟩
      have hlj : jj.length = 32 := by rw [hjj, len_joinOf]
      rw [← hx] at dL heL
      rw [← hy] at dM heM
      have hnx : tr key leaves (k + 1) = putS (tr key leaves k) i jj := by rw [tr, hjj, hx, hy, hM, hL, hik]
      have HNX := Lib.hid hnx
      have HJJ := Lib.hid hjj
      have H3 := Lib.hid h3
      have HW := Lib.hid hw
      have HIK := Lib.hid hik
      clear hnx hjj hx hy h3 hw hik hL hM hlt
      go_wp2_with fail
      refine (wpIn_wide (n := 4)).1 ?_
      refine wpIn_region_rel free_wide rfl 17 (fun W W' => Below W.heap.size W W') (fun W => Below wr.heap.size wr W)
        [Det (.slice (some ⟨g, 0, none⟩) 32 c2), Det (.int .i64 (i : Int)), Det (.slice A n c), Det (.int .i64 (i : Int)), Det (.slice (some ⟨g, 0, none⟩) 32 c2), Det (.int .i64 (i : Int)), Det (.int .i64 (L : Int)), Det (.pointer (some ⟨g, L * 32, none⟩)), Det (.agg (arr8 x)), Det (.slice (some ⟨g, 0, none⟩) 32 c2), Det (.int .i64 (i : Int)), Det (.int .i64 (L : Int)), Det (.int .i64 (M : Int)), Det (.pointer (some ⟨g, M * 32, none⟩)), Det (.agg (arr8 y)), Det (.agg (arr8 jj)), Det (.pointer (some ⟨g, i * 32, none⟩)), Any]
        [[], [], [], [], [], [], [(5, some 25)], [(4, some 24), (6, some 26)], [(7, some 27)], [], [], [(10, some 30)], [(11, some 31)], [(9, some 29), (12, some 32)], [(13, some 33)], [(2, some 22), (3, some 23), (8, some 28), (14, some 34)], [(0, some 20), (1, some 21)], [(16, some 36), (15, some 35)]]
        [[], [], [], [], [], [], [5], [4, 5, 6], [4, 5, 6, 7], [], [], [10], [10, 11], [9, 10, 11, 12], [9, 10, 11, 12, 13], [2, 3, 4, 5, 6, 7, 8, 9, 10, 11, 12, 13, 14], [0, 1, 2, 3, 4, 5, 6, 7, 8, 9, 10, 11, 12, 13, 14, 15], [0, 1, 2, 3, 4, 5, 6, 7, 8, 9, 10, 11, 12, 13, 14, 15, 16]]
        [(0, some 20), (1, some 21), (2, some 22), (3, some 23), (4, some 24), (5, some 25), (6, some 26), (7, some 27), (8, some 28), (9, some 29), (10, some 30), (11, some 31), (12, some 32), (13, some 33), (14, some 34), (15, some 35), (16, some 36), (17, none)] (by kernel_rfl) (by kernel_rfl) (by kernel_rfl) (fun W W' h1 h2 => h1.trans (h2.mono h1.size)) ((Below.refl _ _).drew) ?_ ?_ ?_
      · exact (AllMono.cons Det.later (AllMono.cons Det.later (AllMono.cons Det.later (AllMono.cons Det.later (AllMono.cons Det.later (AllMono.cons Det.later (AllMono.cons Det.later (AllMono.cons Det.later (AllMono.cons Det.later (AllMono.cons Det.later (AllMono.cons Det.later (AllMono.cons Det.later (AllMono.cons Det.later (AllMono.cons Det.later (AllMono.cons Det.later (AllMono.cons Det.later (AllMono.cons Det.later (AllMono.cons Any.later AllMono.nil))))))))))))))))))
      · refine AllOb.cons ?_ (AllOb.cons ?_ (AllOb.cons ?_ (AllOb.cons ?_ (AllOb.cons ?_ (AllOb.cons ?_ (AllOb.cons ?_ (AllOb.cons ?_ (AllOb.cons ?_ (AllOb.cons ?_ (AllOb.cons ?_ (AllOb.cons ?_ (AllOb.cons ?_ (AllOb.cons ?_ (AllOb.cons ?_ (AllOb.cons ?_ (AllOb.cons ?_ (AllOb.nil)))))))))))))))))
        · intro uF W hC' hU aF hF
          have hC : Below wr.heap.size wr W := hC'
          clear hC'
          simp only [puts] at hF
          subst hF
          go_wp2_with (fail)
          exact ⟨rfl, rfl, (Below.refl _ _), rfl⟩
        · intro uF W hC' hU aF hF
          have hC : Below wr.heap.size wr W := hC'
          clear hC'
          simp only [puts] at hF
          subst hF
          go_wp2_with (fail)
          exact ⟨rfl, rfl, (Below.refl _ _), rfl⟩
        · intro uF W hC' hU aF hF
          have hC : Below wr.heap.size wr W := hC'
          clear hC'
          simp only [puts] at hF
          subst hF
          go_wp2_with (fail)
          exact ⟨rfl, rfl, (Below.refl _ _), rfl⟩
        · intro uF W hC' hU aF hF
          have hC : Below wr.heap.size wr W := hC'
          clear hC'
          simp only [puts] at hF
          subst hF
          go_wp2_with (fail)
          exact ⟨rfl, rfl, (Below.refl _ _), rfl⟩
        · intro uF W hC' hU aF hF
          have hC : Below wr.heap.size wr W := hC'
          clear hC'
          simp only [puts] at hF
          subst hF
          go_wp2_with (fail)
          exact ⟨rfl, rfl, (Below.refl _ _), rfl⟩
        · intro uF W hC' hU aF hF
          have hC : Below wr.heap.size wr W := hC'
          clear hC'
          simp only [puts] at hF
          subst hF
          go_wp2_with (fail)
          exact ⟨rfl, rfl, (Below.refl _ _), rfl⟩
        · intro uF W hC' hU aF hF
          have hC : Below wr.heap.size wr W := hC'
          clear hC'
          have h25 : (Det (.int .i64 (i : Int))) (uF 5) W := hU.1
          clear hU
          simp only [puts, Act.put, List.setIfInBounds_toArray, List.set_cons_zero, List.set_cons_succ] at hF
          generalize uF 5 = x25 at h25 hF
          obtain rfl : x25 = (.int .i64 (i : Int)) := h25
          subst hF
          go_wp2_with (fail)
          exact ⟨rfl, rfl, (Below.refl _ _), rfl⟩
        · intro uF W hC' hU aF hF
          have hC : Below wr.heap.size wr W := hC'
          clear hC'
          have h24 : (Det (.slice (some ⟨g, 0, none⟩) 32 c2)) (uF 4) W := hU.1
          have h26 : (Det (.int .i64 (L : Int))) (uF 6) W := hU.2.1
          clear hU
          simp only [puts, Act.put, List.setIfInBounds_toArray, List.set_cons_zero, List.set_cons_succ] at hF
          generalize uF 4 = x24 at h24 hF
          generalize uF 6 = x26 at h26 hF
          obtain rfl : x24 = (.slice (some ⟨g, 0, none⟩) 32 c2) := h24
          obtain rfl : x26 = (.int .i64 (L : Int)) := h26
          subst hF
          go_wp2_with (fail)
          exact ⟨rfl, rfl, (Below.refl _ _), rfl⟩
        · intro uF W hC' hU aF hF
          have hC : Below wr.heap.size wr W := hC'
          clear hC'
          have h27 : (Det (.pointer (some ⟨g, L * 32, none⟩))) (uF 7) W := hU.1
          clear hU
          simp only [puts, Act.put, List.setIfInBounds_toArray, List.set_cons_zero, List.set_cons_succ] at hF
          generalize uF 7 = x27 at h27 hF
          obtain rfl : x27 = (.pointer (some ⟨g, L * 32, none⟩)) := h27
          subst hF
          go_wp2_with (((with_reducible show wpList _ _ _ (Oper.mk _ (Op.load 28 _) _ _ _ _ :: _) _ _); refine wpList_load_agg (by rfl) 28 (.tmp 27) rfl g (L * 32) rfl (arr8 x) agg44 (by rw [size_arr8, heL]) (fun j v hv => (hC.cell (show (⟨g, L * 32 + j, none⟩ : Addr).block < wr.heap.size from hg)).trans (dL.out j v hv)) ?_))
          exact ⟨rfl, rfl, (Below.refl _ _), rfl⟩
        · intro uF W hC' hU aF hF
          have hC : Below wr.heap.size wr W := hC'
          clear hC'
          simp only [puts] at hF
          subst hF
          go_wp2_with (fail)
          exact ⟨rfl, rfl, (Below.refl _ _), rfl⟩
        · intro uF W hC' hU aF hF
          have hC : Below wr.heap.size wr W := hC'
          clear hC'
          simp only [puts] at hF
          subst hF
          go_wp2_with (fail)
          exact ⟨rfl, rfl, (Below.refl _ _), rfl⟩
        · intro uF W hC' hU aF hF
          have hC : Below wr.heap.size wr W := hC'
          clear hC'
          have h30 : (Det (.int .i64 (i : Int))) (uF 10) W := hU.1
          clear hU
          simp only [puts, Act.put, List.setIfInBounds_toArray, List.set_cons_zero, List.set_cons_succ] at hF
          generalize uF 10 = x30 at h30 hF
          obtain rfl : x30 = (.int .i64 (i : Int)) := h30
          subst hF
          go_wp2_with (fail)
          exact ⟨rfl, rfl, (Below.refl _ _), rfl⟩
        · intro uF W hC' hU aF hF
          have hC : Below wr.heap.size wr W := hC'
          clear hC'
          have h31 : (Det (.int .i64 (L : Int))) (uF 11) W := hU.1
          clear hU
          simp only [puts, Act.put, List.setIfInBounds_toArray, List.set_cons_zero, List.set_cons_succ] at hF
          generalize uF 11 = x31 at h31 hF
          obtain rfl : x31 = (.int .i64 (L : Int)) := h31
          subst hF
          go_wp2_with (fail)
          exact ⟨rfl, rfl, (Below.refl _ _), rfl⟩
        · intro uF W hC' hU aF hF
          have hC : Below wr.heap.size wr W := hC'
          clear hC'
          have h29 : (Det (.slice (some ⟨g, 0, none⟩) 32 c2)) (uF 9) W := hU.1
          have h32 : (Det (.int .i64 (M : Int))) (uF 12) W := hU.2.1
          clear hU
          simp only [puts, Act.put, List.setIfInBounds_toArray, List.set_cons_zero, List.set_cons_succ] at hF
          generalize uF 9 = x29 at h29 hF
          generalize uF 12 = x32 at h32 hF
          obtain rfl : x29 = (.slice (some ⟨g, 0, none⟩) 32 c2) := h29
          obtain rfl : x32 = (.int .i64 (M : Int)) := h32
          subst hF
          go_wp2_with (fail)
          exact ⟨rfl, rfl, (Below.refl _ _), rfl⟩
        · intro uF W hC' hU aF hF
          have hC : Below wr.heap.size wr W := hC'
          clear hC'
          have h33 : (Det (.pointer (some ⟨g, M * 32, none⟩))) (uF 13) W := hU.1
          clear hU
          simp only [puts, Act.put, List.setIfInBounds_toArray, List.set_cons_zero, List.set_cons_succ] at hF
          generalize uF 13 = x33 at h33 hF
          obtain rfl : x33 = (.pointer (some ⟨g, M * 32, none⟩)) := h33
          subst hF
          go_wp2_with (((with_reducible show wpList _ _ _ (Oper.mk _ (Op.load 28 _) _ _ _ _ :: _) _ _); refine wpList_load_agg (by rfl) 28 (.tmp 33) rfl g (M * 32) rfl (arr8 y) agg44 (by rw [size_arr8, heM]) (fun j v hv => (hC.cell (show (⟨g, M * 32 + j, none⟩ : Addr).block < wr.heap.size from hg)).trans (dM.out j v hv)) ?_))
          exact ⟨rfl, rfl, (Below.refl _ _), rfl⟩
        · intro uF W hC' hU aF hF
          have hC : Below wr.heap.size wr W := hC'
          clear hC'
          have h22 : (Det (.slice A n c)) (uF 2) W := hU.1
          have h23 : (Det (.int .i64 (i : Int))) (uF 3) W := hU.2.1
          have h28 : (Det (.agg (arr8 x))) (uF 8) W := hU.2.2.1
          have h34 : (Det (.agg (arr8 y))) (uF 14) W := hU.2.2.2.1
          clear hU
          simp only [puts, Act.put, List.setIfInBounds_toArray, List.set_cons_zero, List.set_cons_succ] at hF
          generalize uF 2 = x22 at h22 hF
          generalize uF 3 = x23 at h23 hF
          generalize uF 8 = x28 at h28 hF
          generalize uF 14 = x34 at h34 hF
          obtain rfl : x22 = (.slice A n c) := h22
          obtain rfl : x23 = (.int .i64 (i : Int)) := h23
          obtain rfl : x28 = (.agg (arr8 x)) := h28
          obtain rfl : x34 = (.agg (arr8 y)) := h34
          subst hF
          go_wp2_with ((go_at_call 28; refine (node_c ((HK.out.below (HW.out.mono hB)).below (hC.mono (Nat.le_trans hB hz))) (Nat.le_trans hB (Nat.le_trans hz hC.size)) hn (i : Int) x y heL heM).mono ?_; rintro e W1 ⟨rfl, hb⟩; rw [← HJJ.out]))
          exact ⟨rfl, rfl, hb, rfl⟩
        · intro uF W hC' hU aF hF
          have hC : Below wr.heap.size wr W := hC'
          clear hC'
          have h20 : (Det (.slice (some ⟨g, 0, none⟩) 32 c2)) (uF 0) W := hU.1
          have h21 : (Det (.int .i64 (i : Int))) (uF 1) W := hU.2.1
          clear hU
          simp only [puts, Act.put, List.setIfInBounds_toArray, List.set_cons_zero, List.set_cons_succ] at hF
          generalize uF 0 = x20 at h20 hF
          generalize uF 1 = x21 at h21 hF
          obtain rfl : x20 = (.slice (some ⟨g, 0, none⟩) 32 c2) := h20
          obtain rfl : x21 = (.int .i64 (i : Int)) := h21
          subst hF
          go_wp2_with (fail)
          exact ⟨rfl, rfl, (Below.refl _ _), rfl⟩
      intro uF W5 hC' hU aF hF
      have hCW5 : Below wr.heap.size wr W5 := hC'
      clear hC'
      have h35 : (Det (.agg (arr8 jj))) (uF 15) W5 := hU.2.2.2.2.2.2.2.2.2.2.2.2.2.2.2.1
      have h36 : (Det (.pointer (some ⟨g, i * 32, none⟩))) (uF 16) W5 := hU.2.2.2.2.2.2.2.2.2.2.2.2.2.2.2.2.1
      clear hU
      simp only [List.take_succ_cons, List.take_zero, puts, Act.put, List.setIfInBounds_toArray, List.set_cons_zero, List.set_cons_succ] at hF
      generalize uF 0 = x20 at hF
      generalize uF 1 = x21 at hF
      generalize uF 2 = x22 at hF
      generalize uF 3 = x23 at hF
      generalize uF 4 = x24 at hF
      generalize uF 5 = x25 at hF
      generalize uF 6 = x26 at hF
      generalize uF 7 = x27 at hF
      generalize uF 8 = x28 at hF
      generalize uF 9 = x29 at hF
      generalize uF 10 = x30 at hF
      generalize uF 11 = x31 at hF
      generalize uF 12 = x32 at hF
      generalize uF 13 = x33 at hF
      generalize uF 14 = x34 at hF
      generalize uF 15 = x35 at h35 hF
      generalize uF 16 = x36 at h36 hF
      obtain rfl : x35 = (.agg (arr8 jj)) := h35
      obtain rfl : x36 = (.pointer (some ⟨g, i * 32, none⟩)) := h36
      subst hF
      simp only [List.drop_succ_cons, List.drop_zero]
      refine wpListIn_of free_wide ?_ rfl ?_
      · rintro ⟨_, _, h⟩
        obtain ⟨_, _, h1, _⟩ := h
        cases h1
      refine wpList_storeS rfl 28 (.tmp 36) (.tmp 35) rfl g i rfl jj rfl agg44 hlj (OwS.below H3.out hCW5) (by omega) ?_
      intro w6 h6 hg6 hs6
      have hw6 : Below w.heap.size w w6 := (HW.out.trans (hCW5.mono hz)).grown hg6 (Nat.le_trans hz hCW5.size) (fun k hk => by cases hk; exact hgb)
      rw [← HNX.out] at h6
      simp only [Act.put]
      clear hs6 hg6
      go_wp2_with fail
      exact ⟨⟨i - 1, k + 1, by have := HIK.out; omega, by have := HIK.out; omega, by go_num, h6, hw6⟩, by simp [intOf]; omega⟩
    · obtain rfl : i = 0 := by omega
      obtain rfl : k = 15 := by omega
      have hii : ¬ (0 : Int) < ((0 : Nat) : Int) := by omega
      clear hik
      go_wp2_with fail
      go_ret2
      exact ⟨g, c2, rfl, h3, hw⟩
end Go.Proofs.Ytdifepfplfkfoaa

