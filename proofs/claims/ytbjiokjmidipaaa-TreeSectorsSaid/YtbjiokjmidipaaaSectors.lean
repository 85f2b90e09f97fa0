/-
  tree.Sectors, tree.Tags: digests as sectors, and back.
-/
import Derived.Test.YtbjiokjmidipaaaVerify
namespace Go.Proofs.Ytbjiokjmidipaaa
open Go.RowKit
set_option linter.unusedVariables false
set_option linter.unusedSimpArgs false
set_option maxRecDepth 100000

def SlC (w : World) (B : Nat) (A : Option Addr) (n c : Nat) (xs : List UInt8) : Prop := Sl w B 128 A n c (xs.map b8)
def OwC (w : World) (base : Nat) (A : Option Addr) (n c : Nat) (xs : List UInt8) : Prop := Row w base 48 128 A n c (xs.map b8)
/-- Bytes are written into a row. -/
theorem row_splice {w w' : World} {base g n c size off : Nat} {e : TypeId} {xs s : List UInt8} (h : Row w base e size (some ⟨g, 0, none⟩) n c (xs.map b8)) (h0 : 0 < n) (hf : off + s.length ≤ n * size)
    (hb : ∀ t cur, Blk w g t cur → off + s.length ≤ cur.size → Blk w' g t (splice cur off (s.map b8))) : Row w' base e size (some ⟨g, 0, none⟩) n c ((xs.take off ++ s ++ xs.drop (off + s.length)).map b8) := by
  have hl : xs.length = n * size := by have := h.1; simpa using this
  have hle := h.2.1
  obtain ⟨g', cur, e1, hg, hbk, hsz, ht⟩ := h.2.2.2 (by omega)
  simp only [Option.some.injEq, Addr.mk.injEq, and_true] at e1
  subst e1
  have hcs : n * size ≤ cur.size := Nat.le_trans (Nat.mul_le_mul_right _ hle) hsz
  refine ⟨by simp only [List.length_map, List.length_append, List.length_take, List.length_drop, hl]; omega, hle, h.2.2.1, fun _ => ⟨g, _, rfl, hg, hb _ _ hbk (by omega), by rw [size_splice _ _ _ (by rw [List.length_map]; omega)]; exact hsz, ?_⟩⟩
  have h1 : cur.toList.take off = (xs.take off).map b8 := by rw [List.map_take, ← ht, List.take_take, Nat.min_eq_left (by omega)]
  have h2 : (cur.toList.drop (off + s.length)).take (n * size - (off + s.length)) = (xs.drop (off + s.length)).map b8 := by rw [List.map_drop, ← ht, List.drop_take]
  have hcl : cur.toList.length = cur.size := by simp
  have h3 : (List.take off cur.toList ++ List.map b8 s).length = off + s.length := by rw [h1]; simp [hl]; omega
  simp only [splice, List.length_map]
  rw [List.take_append, h3, h2, List.take_of_length_le (by omega), h1]
  simp
theorem wpList_copyC {P : Program} {ops : Array Oper} {rest : List Oper} {o : Oper} {a : Act} {Q : Exit → Act → World → Prop} {w : World} (hw : Region.wanted o (yielded ops a.tmps) = true) (d x : Operand) (t : TypeId) (ho : o.op = .call { callee := .builtin .copy, args := #[d, x], argTypes := #[t, t] })
    {et : TypeId} (ht : P.underlying t = some (.slice et)) (hs : (P.info? et).map (·.size) = some 1)
    {g off dl dc : Nat} (hd : a.eval d = .slice (some ⟨g, off, none⟩) dl dc) {base n c size : Nat} {e : TypeId} {xs : List UInt8} (h : Row w base e size (some ⟨g, 0, none⟩) n c (xs.map b8)) (h0 : 0 < n)
    {B : Nat} {A : Option Addr} {m c2 : Nat} {news s : List UInt8} (hx : a.eval x = .slice A m c2) (hr : SlB w B A m c2 news) (hsn : news.take (Nat.min m dl) = s) (hf : off + s.length ≤ n * size) (hsl : s.length = Nat.min m dl)
    (hk : ∀ w', Row w' base e size (some ⟨g, 0, none⟩) n c ((xs.take off ++ s ++ xs.drop (off + s.length)).map b8) → w.grownBy w' (some g) → w'.heap.size = w.heap.size → wpList P ops Q rest (a.put o.dst (goInt (Nat.min m dl))) w') : wpList P ops Q (o :: rest) a w := by
  have hl : xs.length = n * size := by have := h.1; simpa using this
  have hle := h.2.1
  obtain ⟨g', cur, e1, hg, hbk, hsz, htk⟩ := h.2.2.2 (by omega)
  simp only [Option.some.injEq, Addr.mk.injEq, and_true] at e1
  subst e1
  have hcs : n * size ≤ cur.size := Nat.le_trans (Nat.mul_le_mul_right _ hle) hsz
  refine wpList_copy_blk hw d x t ho ht hs hd hbk hx hr (by rw [Nat.mul_one, ← hsl]; omega) (b8_one _) fun w' h1 h2 h3 => hk w' (row_splice h h0 hf fun t' cur' hb' hsz' => ?_) h2 h3
  have e1 : some (Obj.cells cur' t' (0, 0)) = some (Obj.cells cur e (0, 0)) := (show w.heap[g]? = _ from hb').symm.trans hbk
  simp only [Option.some.injEq, Obj.cells.injEq, and_true] at e1
  obtain ⟨rfl, rfl⟩ := e1
  rw [Nat.mul_one, ← List.map_take, hsn] at h1
  exact h1
theorem arr_low_run {P : Program} {T e : TypeId} {N : Nat} (hT : P.underlying T = some (.array N e)) (hs : ∀ W, (sizeOf e).run P W = .ok 1 W) (g off l m : Nat) (hl : l < N) (hm : m = N - l) (W : World) :
    (Instr.sliceAt T (.pointer (some ⟨g, off, none⟩)) (some (.int .i64 (l : Int))) none none).run P W = .ok (.slice (some ⟨g, off + l, none⟩) m m) W := by
  subst hm
  have ea : P.arrayLen T = N := by simp [Program.arrayLen, hT]
  have ee : P.elem T = e := by simp [Program.elem, hT]
  have h := run_sliceAt_array_l (P := P) W T ⟨g, off, none⟩ (by rw [ea, ee]; exact hT) .i64 (l : Int) (by omega) (by rw [ea]; omega)
  rw [h, ee, hs, ea]
  have hne : ¬ N = l := by omega
  simp [Result.andThen, slicedAt, Addr.add, hne]

def zs8 : List UInt8 := List.replicate 1024 0
theorem len_zs8 : zs8.length = 1024 := by simp [zs8]
theorem cells_info : (Try.prog.info? 48).map (fun i => (i.size, i.bytes)) = some (128, 128) := by kernel_rfl
theorem made_zero (m n : Nat) (hm : 0 < m) : madeCells (Value.cells (.agg (arr8 (z8' m)))) n = arr8 (List.replicate n 0) := by
  apply Array.ext_getElem?
  intro j
  have hs : (Value.cells (.agg (arr8 (z8' m)))).size = m := by simp [Value.cells, size_arr8, len_z8']
  have hg : ∀ q, q < m → (Value.cells (.agg (arr8 (z8' m))))[q]! = b8 0 := fun q hq => by
    have h1 : (Value.cells (.agg (arr8 (z8' m))))[q]? = some (b8 0) := by
      show (arr8 (z8' m))[q]? = _
      rw [arr8_get, z8', List.getElem?_replicate, if_pos hq]; rfl
    rw [getElem!_def, h1]
  simp only [madeCells, hs]
  rw [Array.getElem?_map, arr8_get, List.getElem?_replicate]
  by_cases h : j < n
  · rw [Array.getElem?_eq_getElem (by simpa using h)]
    simp [h, hg _ (Nat.mod_lt j hm)]
  · rw [Array.getElem?_eq_none (by simpa using h)]
    simp [h]
theorem made8 : madeCells (Value.cells (.agg (arr8 (z8' 128)))) (8 * 128) = arr8 zs8 := made_zero 128 _ (by omega)
theorem make8C (W : World) : (Instr.makeSlice 58 (.int .i64 8) (.int .i64 8)).run Try.prog W = .ok (.slice (some ⟨W.heap.size, 0, none⟩) 8 8) (W.alloc (.cells (arr8 zs8) 48)) := by
  obtain ⟨i, hi, hz⟩ : ∃ i, Try.prog.info? 48 = some i ∧ (i.size, i.bytes) = (128, 128) := by
    have h := cells_info
    cases hh : Try.prog.info? 48 with
    | none => rw [hh] at h; cases h
    | some i => rw [hh] at h; exact ⟨i, rfl, by simpa using h⟩
  have hz0 := zero128
  rw [hi] at hz0
  simp only [Prod.mk.injEq] at hz
  obtain ⟨hz1, hz2⟩ := hz
  simp only [Option.bind_some] at hz0
  have hr := run_make_rowN (P := Try.prog) 58 48 i _ Try.underlying58 hi hz0 .i64 .i64 8 8 (Nat.le_refl _) (by rw [hz2]; omega) (by omega) W
  rw [hz1, made8] at hr
  exact hr

theorem next_sector (xs : List UInt8) {i : Nat} (hx : xs.length = 1024) (hi : i < 32) : (xs.take (32 * i) ++ zs8.drop (32 * i)).take (32 * i) ++ elt xs i ++ (xs.take (32 * i) ++ zs8.drop (32 * i)).drop (32 * i + (elt xs i).length) = xs.take (32 * (i + 1)) ++ zs8.drop (32 * (i + 1)) := by
  have h1 : (xs.take (32 * i)).length = 32 * i := by rw [List.length_take, hx]; omega
  have h2 : (elt xs i).length = 32 := by rw [elt, List.length_take, List.length_drop, hx]; omega
  rw [List.take_left' h1, h2, List.drop_append, h1, List.drop_of_length_le (by omega), List.nil_append, List.drop_drop, show 32 * i + (32 * i + 32 - 32 * i) = 32 * (i + 1) by omega]
  congr 1
  rw [elt, Nat.mul_add, Nat.mul_one, List.take_add]

theorem sectors_bad {w : World} {A : Option Addr} {n c : Nat} (hn : n ≠ 32) (hn2 : n ≤ 9223372036854775807) :
    Calls Try.prog 32 #[.slice A n c] w fun e w' => e = .returned (.tuple #[.slice none 0 0, .iface 35 (.int .i64 2)]) ∧ w = w' := by
  have hne : ((n : Int) != 32) = true := by rw [bne_iff_ne]; omega
  have hne2 : ¬ (n : Int) = 32 := by omega
  go_enter Try.func32, Try.ntmps32
  go_wp2_with fail
  go_ret2
  exact ⟨rfl, rfl⟩

set_option maxHeartbeats 4000000 in
theorem sectors_c {w : World} {B : Nat} {A : Option Addr} {c : Nat} {xs : List UInt8} (hx : SlS w B A 32 c xs) (hB : B ≤ w.heap.size) :
    Calls Try.prog 32 #[.slice A 32 c] w fun e w' => ∃ g, e = .returned (.tuple #[.slice (some ⟨g, 0, none⟩) 8 8, .nilIface]) ∧ OwC w' w.heap.size (some ⟨g, 0, none⟩) 8 8 xs ∧ Below w.heap.size w w' := by
  have hxl : xs.length = 1024 := by have := hx.len; omega
  obtain ⟨bb, off, rfl, hbB, hcl⟩ := hx.at_ (by have := hx.le; omega)
  obtain ⟨g, hg⟩ : ∃ g, g = w.heap.size := ⟨_, rfl⟩
  obtain ⟨v, hv⟩ : ∃ v, v = w.alloc (.cells (arr8 zs8) 48) := ⟨_, rfl⟩
  have hbv : Below w.heap.size w v := by rw [hv]; exact below_alloc _ _
  have h0 : OwC v w.heap.size (some ⟨g, 0, none⟩) 8 8 (xs.take (32 * 0) ++ zs8.drop (32 * 0)) := by
    refine ⟨by simp [len_zs8], Nat.le_refl _, by simp [maxLen], fun _ => ⟨g, arr8 zs8, rfl, by omega, by rw [hv, hg]; exact Blk.new _ _ _, by rw [size_arr8, len_zs8]; omega, ?_⟩⟩
    rw [List.take_of_length_le (by simp [arr8, len_zs8])]
    simp [arr8]
  have hmk := make8C
  have HV := Lib.hid hv
  have HG := Lib.hid hg
  have HCL := Lib.hid hcl
  have H0 := Lib.hid h0
  have hcc := hx.le
  have hcm := hx.2.2.1
  have hwg : w.heap.size ≤ g := by omega
  have hgB : B ≤ g := by omega
  clear hv hg hcl h0 hx
  go_enter Try.func32, Try.ntmps32
  go_wp2_with fail
  rw [← HV.out, ← HG.out]
  go_loopw [14] (fun v14 wr => ∃ i : Nat, i ≤ 32 ∧ v14 = .int .i64 (i : Int) ∧ OwC wr w.heap.size (some ⟨g, 0, none⟩) 8 8 (xs.take (32 * i) ++ zs8.drop (32 * i)) ∧ Below w.heap.size w wr) (fun v14 _ => 32 - (intOf v14).toNat)
  case atStart => exact ⟨0, by omega, rfl, H0.out, hbv⟩
  case round =>
    clear H0 hbv hmk
    obtain ⟨i, hi, rfl, h4, hw⟩ := hrel
    have hz := hw.size
    by_cases hlt : i < 32
    · have hii : (i : Int) < 32 := by omega
      have hi0 : (0 : Int) ≤ (i : Int) := by omega
      obtain ⟨q, hq⟩ : ∃ q, q = i / 4 := ⟨_, rfl⟩
      obtain ⟨r, hr⟩ : ∃ r, r = i % 4 := ⟨_, rfl⟩
      obtain ⟨R, hR⟩ : ∃ R, R = 32 * r := ⟨_, rfl⟩
      have htd : ((i : Int)).tdiv 4 = (q : Int) := by rw [Int.tdiv_eq_ediv_of_nonneg (by omega), hq]; rfl
      have hed : (i : Int) / 4 = (q : Int) := by rw [hq]; rfl
      have htm : ((i : Int)).tmod 4 = (r : Int) := by rw [Int.tmod_eq_emod_of_nonneg (by omega), hr]; rfl
      have hem : (i : Int) % 4 = (r : Int) := by rw [hr]; rfl
      have hRi : 32 * (r : Int) = (R : Int) := by omega
      have hq8 : (q : Int) < 8 := by omega
      have hq0 : (0 : Int) ≤ (q : Int) := by omega
      have hr4 : (r : Int) < 4 := by omega
      have hr0 : (0 : Int) ≤ (r : Int) := by omega
      have hR96 : (R : Int) ≤ 96 := by omega
      have hR0 : (0 : Int) ≤ (R : Int) := by omega
      have hoff : q * 128 + R = 32 * i := by omega
      have hsl := arr_low_run (P := Try.prog) (T := 48) Try.underlying48 size1 g (q * 128) R (128 - R) (by omega) rfl
      have hle := len_elt (n := 32) (by omega) hlt (xs := xs)
      have di := HCL.out i hlt
      obtain ⟨x, hx⟩ : ∃ x, x = elt xs i := ⟨_, rfl⟩
      have hns := next_sector xs hxl hlt
      rw [← hx] at di hle hns
      have HNS := Lib.hid hns
      have HDI := Lib.hid (show ∀ j v, (arr8 x)[j]? = some v → wr.cell? ⟨bb, off + i * 32 + j, none⟩ = some v from fun j v hv => (hw.cell (p := ⟨bb, off + i * 32 + j, none⟩) (Nat.lt_of_lt_of_le hbB hB)).trans (di j v hv))
      have H4 := Lib.hid h4
      have HW := Lib.hid hw
      have HOFF := Lib.hid hoff
      have HX := Lib.hid hx
      obtain ⟨g6, hg6⟩ : ∃ g6, g6 = wr.heap.size := ⟨_, rfl⟩
      have b6 := Blk.new wr 40 (arr8 (z8' 32))
      rw [← hg6] at b6
      have HG6 := Lib.hid hg6
      have hgg6 : g < g6 := by
        obtain ⟨g', cur, e, _, hbk, _, _⟩ := h4.2.2.2 (by omega)
        simp only [Option.some.injEq, Addr.mk.injEq, and_true] at e
        have := hbk.lt
        omega
      have hwg6 : w.heap.size ≤ g6 := by omega
      clear hx hns di h4 hw hq hr hR hoff hg6
      go_wp2_with (first
        | ((with_reducible show wpList _ _ _ (Oper.mk _ (Op.load 40 (.tmp 17)) _ _ _ _ :: _) _ _); refine wpList_load_agg rfl 40 (.tmp 17) rfl bb (off + i * 32) rfl (arr8 x) agg44 (by rw [size_arr8, hle]) HDI.out ?_)
        | ((with_reducible show wpList _ _ _ (Oper.mk _ (Op.alloc 40) _ _ _ _ :: _) _ _); refine wpList_alloc_agg rfl 40 rfl (arr8 (z8' 32)) zero44 ?_; rw [← HG6.out])
        | ((with_reducible show wpList _ _ _ (Oper.mk none (Op.store 40 (.tmp 6) _) _ _ _ _ :: _) _ _); refine wpList_store8 rfl 40 (.tmp 6) (.tmp 18) rfl g6 rfl x rfl agg44 hle _ _ b6 (by rw [size_arr8, len_z8']) ?_; intro v2 hb2 hgr2 hs2; simp only [Act.put, List.setIfInBounds_toArray, List.set_cons_succ, List.set_cons_zero]))
      have hv2 := (HW.out.alloc hz (.cells (arr8 (z8' 32)) 40)).grown hgr2 (Nat.le_trans hz (by simp)) (fun k hk => by cases hk; exact hwg6)
      have h42 : OwC v2 w.heap.size (some ⟨g, 0, none⟩) 8 8 (xs.take (32 * i) ++ zs8.drop (32 * i)) := Row.keepRow (Row.alloc H4.out _) hgr2 (.inr (by simp [wrote]; omega))
      have hall := arr_all_run (P := Try.prog) (T := 40) Try.underlying40 size1 (by omega) g6
      have hz2 := hv2.size
      clear hs2 hgr2 b6
      refine (wpIn_wide (n := 4)).1 ?_
      refine wpIn_region_rel free_wide rfl 9 (fun W W' => Below W.heap.size W W') (fun W => Below v2.heap.size v2 W)
        [Det (.slice (some ⟨g, 0, none⟩) 8 8), Det (.int .i64 (i : Int)), Det (.int .i64 (q : Int)), Det (.pointer (some ⟨g, q * 128, none⟩)), Det (.int .i64 (i : Int)), Det (.int .i64 (r : Int)), Det (.int .i64 (R : Int)), Det (.slice (some ⟨g, q * 128 + R, none⟩) (128 - R) (128 - R)), Det (.slice (some ⟨g6, 0, none⟩) 32 32), Any]
        [[], [], [(1, some 20)], [(0, some 19), (2, some 21)], [], [(4, some 23)], [(5, some 24)], [(3, some 22), (6, some 25)], [], [(7, some 26), (8, some 27)]]
        [[], [], [1], [0, 1, 2], [], [4], [4, 5], [0, 1, 2, 3, 4, 5, 6], [], [0, 1, 2, 3, 4, 5, 6, 7, 8]]
        [(0, some 19), (1, some 20), (2, some 21), (3, some 22), (4, some 23), (5, some 24), (6, some 25), (7, some 26), (8, some 27), (9, some 28)] (by kernel_rfl) (by kernel_rfl) (by kernel_rfl) (fun W W' h1 h2 => h1.trans (h2.mono h1.size)) ((Below.refl _ _).drew) ?_ ?_ ?_
      · exact (AllMono.cons Det.later (AllMono.cons Det.later (AllMono.cons Det.later (AllMono.cons Det.later (AllMono.cons Det.later (AllMono.cons Det.later (AllMono.cons Det.later (AllMono.cons Det.later (AllMono.cons Det.later (AllMono.cons Any.later AllMono.nil))))))))))
      · refine AllOb.cons ?_ (AllOb.cons ?_ (AllOb.cons ?_ (AllOb.cons ?_ (AllOb.cons ?_ (AllOb.cons ?_ (AllOb.cons ?_ (AllOb.cons ?_ (AllOb.cons ?_ (AllOb.nil)))))))))
        · intro uF W hC' hU aF hF
          have hC : Below v2.heap.size v2 W := hC'
          clear hC'
          simp only [puts] at hF
          subst hF
          go_wp2_with (fail)
          exact ⟨rfl, rfl, (Below.refl _ _), rfl⟩
        · intro uF W hC' hU aF hF
          have hC : Below v2.heap.size v2 W := hC'
          clear hC'
          simp only [puts] at hF
          subst hF
          go_wp2_with (fail)
          exact ⟨rfl, rfl, (Below.refl _ _), rfl⟩
        · intro uF W hC' hU aF hF
          have hC : Below v2.heap.size v2 W := hC'
          clear hC'
          have h20 : (Det (.int .i64 (i : Int))) (uF 1) W := hU.1
          clear hU
          simp only [puts, Act.put, List.setIfInBounds_toArray, List.set_cons_zero, List.set_cons_succ] at hF
          generalize uF 1 = x20 at h20 hF
          obtain rfl : x20 = (.int .i64 (i : Int)) := h20
          subst hF
          go_wp2_with (fail)
          exact ⟨rfl, rfl, (Below.refl _ _), rfl⟩
        · intro uF W hC' hU aF hF
          have hC : Below v2.heap.size v2 W := hC'
          clear hC'
          have h19 : (Det (.slice (some ⟨g, 0, none⟩) 8 8)) (uF 0) W := hU.1
          have h21 : (Det (.int .i64 (q : Int))) (uF 2) W := hU.2.1
          clear hU
          simp only [puts, Act.put, List.setIfInBounds_toArray, List.set_cons_zero, List.set_cons_succ] at hF
          generalize uF 0 = x19 at h19 hF
          generalize uF 2 = x21 at h21 hF
          obtain rfl : x19 = (.slice (some ⟨g, 0, none⟩) 8 8) := h19
          obtain rfl : x21 = (.int .i64 (q : Int)) := h21
          subst hF
          go_wp2_with (fail)
          exact ⟨rfl, rfl, (Below.refl _ _), rfl⟩
        · intro uF W hC' hU aF hF
          have hC : Below v2.heap.size v2 W := hC'
          clear hC'
          simp only [puts] at hF
          subst hF
          go_wp2_with (fail)
          exact ⟨rfl, rfl, (Below.refl _ _), rfl⟩
        · intro uF W hC' hU aF hF
          have hC : Below v2.heap.size v2 W := hC'
          clear hC'
          have h23 : (Det (.int .i64 (i : Int))) (uF 4) W := hU.1
          clear hU
          simp only [puts, Act.put, List.setIfInBounds_toArray, List.set_cons_zero, List.set_cons_succ] at hF
          generalize uF 4 = x23 at h23 hF
          obtain rfl : x23 = (.int .i64 (i : Int)) := h23
          subst hF
          go_wp2_with (fail)
          exact ⟨rfl, rfl, (Below.refl _ _), rfl⟩
        · intro uF W hC' hU aF hF
          have hC : Below v2.heap.size v2 W := hC'
          clear hC'
          have h24 : (Det (.int .i64 (r : Int))) (uF 5) W := hU.1
          clear hU
          simp only [puts, Act.put, List.setIfInBounds_toArray, List.set_cons_zero, List.set_cons_succ] at hF
          generalize uF 5 = x24 at h24 hF
          obtain rfl : x24 = (.int .i64 (r : Int)) := h24
          subst hF
          go_wp2_with (fail)
          exact ⟨rfl, rfl, (Below.refl _ _), rfl⟩
        · intro uF W hC' hU aF hF
          have hC : Below v2.heap.size v2 W := hC'
          clear hC'
          have h22 : (Det (.pointer (some ⟨g, q * 128, none⟩))) (uF 3) W := hU.1
          have h25 : (Det (.int .i64 (R : Int))) (uF 6) W := hU.2.1
          clear hU
          simp only [puts, Act.put, List.setIfInBounds_toArray, List.set_cons_zero, List.set_cons_succ] at hF
          generalize uF 3 = x22 at h22 hF
          generalize uF 6 = x25 at h25 hF
          obtain rfl : x22 = (.pointer (some ⟨g, q * 128, none⟩)) := h22
          obtain rfl : x25 = (.int .i64 (R : Int)) := h25
          subst hF
          go_wp2_with (fail)
          exact ⟨rfl, rfl, (Below.refl _ _), rfl⟩
        · intro uF W hC' hU aF hF
          have hC : Below v2.heap.size v2 W := hC'
          clear hC'
          simp only [puts] at hF
          subst hF
          go_wp2_with (fail)
          exact ⟨rfl, rfl, (Below.refl _ _), rfl⟩
      intro uF W5 hC' hU aF hF
      have hCW5 : Below v2.heap.size v2 W5 := hC'
      clear hC'
      have h26 : (Det (.slice (some ⟨g, q * 128 + R, none⟩) (128 - R) (128 - R))) (uF 7) W5 := hU.2.2.2.2.2.2.2.1
      have h27 : (Det (.slice (some ⟨g6, 0, none⟩) 32 32)) (uF 8) W5 := hU.2.2.2.2.2.2.2.2.1
      clear hU
      simp only [List.take_succ_cons, List.take_zero, puts, Act.put, List.setIfInBounds_toArray, List.set_cons_zero, List.set_cons_succ] at hF
      generalize uF 0 = x19 at hF
      generalize uF 1 = x20 at hF
      generalize uF 2 = x21 at hF
      generalize uF 3 = x22 at hF
      generalize uF 4 = x23 at hF
      generalize uF 5 = x24 at hF
      generalize uF 6 = x25 at hF
      generalize uF 7 = x26 at h26 hF
      generalize uF 8 = x27 at h27 hF
      obtain rfl : x26 = (.slice (some ⟨g, q * 128 + R, none⟩) (128 - R) (128 - R)) := h26
      obtain rfl : x27 = (.slice (some ⟨g6, 0, none⟩) 32 32) := h27
      subst hF
      simp only [List.drop_succ_cons, List.drop_zero]
      refine wpListIn_of free_wide ?_ rfl ?_
      · rintro ⟨_, _, h⟩
        obtain ⟨_, h1, _⟩ := h
        cases h1
      refine wpList_copyC rfl (.tmp 26) (.tmp 27) 22 rfl Try.underlying22 (by kernel_rfl) rfl (Row.below h42 hCW5) (by omega) rfl (sum_sl (hb2.below hCW5 hb2.lt) hle) (s := x) (by rw [show Nat.min 32 (128 - R) = 32 from Nat.min_eq_left (by omega)]; exact List.take_of_length_le (by omega)) (by have := HOFF.out; omega) (by rw [hle]; exact (Nat.min_eq_left (by omega)).symm) ?_
      intro w6 h6 hg6' hs6
      rw [HOFF.out, HNS.out] at h6
      have hw6 : Below w.heap.size w w6 := (hv2.trans (hCW5.mono hz2)).grown hg6' (Nat.le_trans hz2 hCW5.size) (fun k hk => by cases hk; exact hwg)
      simp only [Act.put]
      clear hs6 hg6'
      go_wp2_with fail
      exact ⟨⟨i + 1, by omega, by go_num, h6, hw6⟩, by simp [intOf]; omega⟩
    · obtain rfl : i = 32 := by omega
      have hii : ¬ ((32 : Nat) : Int) < 32 := by omega
      rw [List.take_of_length_le (by omega), List.drop_of_length_le (by rw [len_zs8]; omega), List.append_nil] at h4
      go_wp2_with fail
      go_ret2
      exact ⟨g, rfl, h4, hw⟩
end Go.Proofs.Ytbjiokjmidipaaa

