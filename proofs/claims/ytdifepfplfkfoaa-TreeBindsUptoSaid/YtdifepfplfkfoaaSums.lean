/-
  Rows of digests: bytes, thirty-two for each; the statements' sums and same.
-/
import Derived.Test.YtdifepfplfkfoaaTree
import Derived.Test.YtdifepfplfkfoaaGrow
import Derived.Test.YtdifepfplfkfoaaOneRow
namespace Go.Proofs.Ytdifepfplfkfoaa
open Go.RowKit
set_option linter.unusedVariables false
set_option linter.unusedSimpArgs false
set_option maxRecDepth 100000

/-- The slice reads as digests, one behind the other. -/
def SlS (w : World) (B : Nat) (A : Option Addr) (n c : Nat) (xs : List UInt8) : Prop := Sl w B 32 A n c (xs.map b8)
/-- A row of digests of the call's own. -/
def OwS (w : World) (base : Nat) (A : Option Addr) (n c : Nat) (xs : List UInt8) : Prop := Row w base 28 32 A n c (xs.map b8)
def elt (xs : List UInt8) (i : Nat) : List UInt8 := (xs.drop (32 * i)).take 32
theorem len_elt {xs : List UInt8} {n i : Nat} (h : xs.length = n * 32) (hi : i < n) : (elt xs i).length = 32 := by
  rw [elt, List.length_take, List.length_drop, h]; omega
section
variable {w w' : World} {B B' base n c : Nat} {A : Option Addr} {xs : List UInt8}
theorem SlS.len (h : SlS w B A n c xs) : xs.length = n * 32 := by have := h.1; simpa using this
theorem SlS.le (h : SlS w B A n c xs) : n ≤ c := h.2.1
theorem SlS.mx (h : SlS w B A n c xs) : n ≤ 9223372036854775807 := by have := Sl.le h; simpa [maxLen] using this
theorem SlS.below (h : SlS w B A n c xs) (hb : Below B w w') : SlS w' B A n c xs := Sl.below h hb
theorem SlS.more (h : SlS w B A n c xs) (hB : B ≤ B') : SlS w B' A n c xs := Sl.more h hB
theorem OwS.len (h : OwS w base A n c xs) : xs.length = n * 32 := by have := h.1; simpa using this
theorem OwS.sl (h : OwS w base A n c xs) : SlS w w.heap.size A n c xs := Row.sl h
theorem OwS.below (h : OwS w base A n c xs) (hb : Below w.heap.size w w') : OwS w' base A n c xs := Row.below h hb
/-- Where the digests lie. -/
theorem SlS.at_ (h : SlS w B A n c xs) (hc : 0 < c) : ∃ b off, A = some ⟨b, off, none⟩ ∧ b < B ∧ ∀ i, i < n → ∀ j v, (arr8 (elt xs i))[j]? = some v → w.cell? ⟨b, off + i * 32 + j, none⟩ = some v := by
  obtain ⟨b, off, e, hb, hj⟩ := Sl.at_ h hc
  refine ⟨b, off, e, hb, fun i hi j v hv => ?_⟩
  rw [Nat.add_assoc]
  refine hj _ v ?_
  rw [arr8_get, elt, List.getElem?_take] at hv
  split at hv
  · rw [List.getElem?_drop] at hv
    rw [List.getElem?_map, show i * 32 + j = 32 * i + j by omega]
    exact hv
  · cases hv
end
theorem sums_info : (Try.prog.info? 28).map (fun i => (i.size, i.bytes)) = some (32, 32) := by kernel_rfl

/-- 'append(s, x)' of one digest. -/
theorem wpList_appendS {ops : Array Oper} {rest : List Oper} {o : Oper} {a : Act} {Q : Exit → Act → World → Prop} {w : World} (hgd : o.guard = none) (s x : Operand)
    (ho : o.op = .call { callee := .builtin .append, args := #[s, x], argTypes := #[51, 51] })
    {base : Nat} {A : Option Addr} {n c : Nat} {xs : List UInt8} (hs : a.eval s = .slice A n c) (hown : OwS w base A n c xs)
    {B : Nat} {A2 : Option Addr} {m c2 : Nat} {news : List UInt8} (hx : a.eval x = .slice A2 m c2) (hr : SlS w B A2 m c2 news)
    (hbytes : n + m ≤ 4398046511104) (hbase : base ≤ w.heap.size) (k : Nat) (hk : n + m = k)
    (h : ∀ A' c' w', OwS w' base A' k c' (xs ++ news) → Went w w' A n c m A' c' → wpList Try.prog ops Q rest (a.put o.dst (.slice A' k c')) w') :
    wpList Try.prog ops Q (o :: rest) a w := by
  subst hk
  obtain ⟨i0, hi, hz⟩ : ∃ i, Try.prog.info? 28 = some i ∧ (i.size, i.bytes) = (32, 32) := by
    have h := sums_info
    cases hh : Try.prog.info? 28 with
    | none => rw [hh] at h; cases h
    | some i => rw [hh] at h; exact ⟨i, rfl, by simpa using h⟩
  have hz0 := zero44
  rw [hi] at hz0
  simp only [Prod.mk.injEq] at hz
  refine wpList_append_row hgd s x _ ho Try.underlying51 hi hz0 hz.1 hz.2 (by rfl) hs hown hx hr (b8_one _) (by omega) (by simp only [maxLen]; omega) hbase fun A' c' w' h1 h2 => h A' c' w' ?_ h2
  rw [OwS, List.map_append]
  exact h1
/-- One digest just laid. -/
theorem SlS.one {w : World} {s : List UInt8} (hs : s.length = 32) {B : Nat} (hB : w.heap.size < B) : SlS (w.alloc (.cells (arr8 s) 28)) B (some ⟨w.heap.size, 0, none⟩) 1 1 s :=
  ⟨by simp [hs], Nat.le_refl _, by simp [maxLen], fun _ => ⟨w.heap.size, 0, rfl, hB, fun j u hu => by
    rw [(Blk.new w 28 (arr8 s)).cell, Nat.zero_add]
    simpa [arr8] using hu⟩⟩

/-- The statements' digest of a byte: some are noughts. -/
def sumOf (b : UInt8) : List UInt8 := if b = 0 then noS else [b, b ^^^ 0x55, 7] ++ List.replicate 29 0
theorem len_sumOf (b : UInt8) : (sumOf b).length = 32 := by
  unfold sumOf; split
  · exact len_noS
  · simp
def sumsOf (bs : List UInt8) : List UInt8 := bs.flatMap sumOf
theorem sumsOf_snoc (bs : List UInt8) (b : UInt8) : sumsOf (bs ++ [b]) = sumsOf bs ++ sumOf b := by simp [sumsOf]
theorem len_sumsOf (bs : List UInt8) : (sumsOf bs).length = bs.length * 32 := by
  induction bs with
  | nil => rfl
  | cons b bs ih => rw [sumsOf, List.flatMap_cons, List.length_append, len_sumOf, ← sumsOf, ih, List.length_cons]; omega
theorem build_sum0 (x y : Int) (w : World) : (Instr.build 28 #[(0, .int .u8 x), (1, .int .u8 y), (2, .int .u8 7)]).run Try.prog w = .ok (.agg (#[.int .u8 x, .int .u8 y, .int .u8 7] ++ (List.replicate 29 (Value.int .u8 0)).toArray)) w := by kernel_rfl
theorem build_sum (b : UInt8) (hb : b ≠ 0) (w : World) : (Instr.build 28 #[(0, .int .u8 (b.toNat : Int)), (1, .int .u8 ((b ^^^ 0x55).toNat : Int)), (2, .int .u8 7)]).run Try.prog w = .ok (.agg (arr8 (sumOf b))) w := by
  rw [sumOf, if_neg hb, build_sum0]
  simp [arr8, b8]

set_option maxHeartbeats 2000000 in
theorem sums_c {w : World} {B : Nat} {A : Option Addr} {n c : Nat} {bs : List UInt8} (hb : SlB w B A n c bs) (hB : B ≤ w.heap.size) (hn : n ≤ 1048576) :
    Calls Try.prog 23 #[.slice A n c] w fun e w' => ∃ A' c', e = .returned (.slice A' n c') ∧ OwS w' w.heap.size A' n c' (sumsOf bs) ∧ Below w.heap.size w w' := by
  have hl := Lib.hid hb.len
  have HB := Lib.hid hb
  have hal := below_alloc w (.cells #[] 28)
  have n0 : OwS (w.alloc (.cells #[] 28)) w.heap.size (some ⟨w.heap.size, 0, none⟩) 0 0 [] := Row.nil _ _ _ _ _
  clear hb
  go_enter Try.func23, Try.ntmps23
  go_wp2_with fail
  go_loopw [3, 10] (fun v3 v10 wr => ∃ (i : Nat) (A3 : Option Addr) (c3 : Nat), i ≤ n ∧ v10 = .int .i64 (i : Int) ∧ v3 = .slice A3 i c3 ∧ OwS wr w.heap.size A3 i c3 (sumsOf (bs.take i)) ∧ Below w.heap.size w wr) (fun _ v10 _ => n - (intOf v10).toNat)
  case atStart => exact ⟨0, _, 0, by omega, rfl, rfl, by simpa [sumsOf] using n0, hal⟩
  case round =>
    clear n0 hal
    obtain ⟨i, A3, c3, hi, rfl, rfl, h3, hw⟩ := hrel
    have hz := hw.size
    by_cases hlt : i < n
    · have hii : (i : Int) < (n : Int) := by omega
      have hi0 : (0 : Int) ≤ (i : Int) := by omega
      have hbw := HB.out.below (hw.mono hB)
      obtain ⟨bb, off, rfl, hbB, hj⟩ := hbw.at_ (by have := hbw.le; omega)
      obtain ⟨x, hx⟩ : ∃ x, bs[i]? = some x := ⟨_, List.getElem?_eq_getElem (by rw [hl.out]; exact hlt)⟩
      have dq := hj i x hx
      have htk : bs.take (i + 1) = bs.take i ++ [x] := by rw [List.take_add_one, hx]; rfl
      have hsn : sumsOf (bs.take (i + 1)) = sumsOf (bs.take i) ++ sumOf x := by rw [htk, sumsOf_snoc]
      have H3 := Lib.hid h3
      have HW := Lib.hid hw
      have HSN := Lib.hid hsn
      have HBB := Lib.hid hbB
      have g6 : ∃ g6, g6 = wr.heap.size := ⟨_, rfl⟩
      obtain ⟨g6, hg6⟩ := g6
      have b6 := Blk.new wr 28 (arr8 (z8' 32))
      rw [← hg6] at b6
      have HG6 := Lib.hid hg6
      have hgw : w.heap.size ≤ g6 := by omega
      have hx55 : bits .xor .u8 (x.toNat : Int) 85 = ((x ^^^ 0x55).toNat : Int) := xor8 x 0x55
      have H3N := Lib.hid (show ∀ g, wrote A3 c3 = some g → g ≠ g6 from fun g e => by
        rcases Row.wrote_lt h3 with h1 | ⟨g', _, h1, _, hlt', _⟩
        · rw [h1] at e; cases e
        · rw [h1] at e; cases e
          omega)
      clear h3 hw hj hx hbw htk hsn hbB hg6
      by_cases hx0 : x = 0
      · have hxi : ¬ (0 : Int) < (x.toNat : Int) := by rw [hx0]; decide
        have hs : sumOf x = noS := if_pos hx0
        have HS := Lib.hid hs
        clear hs hx0 hx55
        go_wp2_with (first
          | ((with_reducible show wpList _ _ _ (Oper.mk _ (Op.alloc 28) _ _ _ _ :: _) _ _); refine wpList_alloc_agg rfl 28 rfl (arr8 (z8' 32)) zero44 ?_; rw [← HG6.out])
          | ((with_reducible show wpList _ _ _ (Oper.mk _ (Op.build 28 _) _ _ _ _ :: _) _ _); refine wpList_build (by rfl) 28 _ rfl #[] (by simp only [List.map_toArray, List.map_nil]) _ (build44 _) ?_)
          | ((with_reducible show wpList _ _ _ (Oper.mk none (Op.store 28 (.tmp 6) (.tmp 14)) _ _ _ _ :: _) _ _); refine wpList_store8 rfl 28 (.tmp 6) (.tmp 14) rfl g6 rfl noS rfl agg44 len_noS _ _ b6 (by rw [size_arr8, len_z8']) ?_; intro v2 hb2 hgr2 hs2; have hw2 := (HW.out.alloc hz (.cells (arr8 (z8' 32)) 28)).grown hgr2 (Nat.le_trans hz (by simp)) (fun k hk => by cases hk; exact hgw); have h32 : OwS v2 w.heap.size A3 i c3 (sumsOf (bs.take i)) := Row.keepRow (Row.alloc H3.out _) hgr2 (.inr (fun e => H3N.out _ e rfl)); have hz2 := hw2.size; have o2 := SlS.one len_noS (w := v2) (B := (v2.alloc (.cells (arr8 noS) 28)).heap.size) (by simp); have h33 := Row.alloc h32 (.cells (arr8 noS) 28))
          | ((with_reducible show wpList _ _ _ (Oper.mk _ (Op.load 28 (.tmp 6)) _ _ _ _ :: _) _ _); refine wpList_load_whole (by rfl) 28 (.tmp 6) rfl g6 rfl (arr8 noS) agg44 (by rw [size_arr8, len_noS]) 28 hb2 ?_)
          | ((with_reducible show wpList _ _ _ (Oper.mk (some 23) (Op.buildSlice _ _ _) _ _ _ _ :: _) _ _); refine wpList_one_row (by rfl) 51 (.tmp 22) rfl Try.underlying51 agg44.2 zero44 (by rfl) (by omega) (by omega) (arr8 noS) rfl (by rw [size_arr8, len_noS]) ?_)
          | (at_builtin; refine wpList_appendS rfl (.tmp 21) (.tmp 23) rfl rfl h33 rfl o2 (by omega) (Nat.le_trans hz2 (by simp)) (i + 1) rfl ?_; intro A4 c4 v4 h4 q4; have hw4 : Below w.heap.size w v4 := q4.below h33 (hw2.alloc hz2 _) (Nat.le_refl _) (Nat.le_trans hz2 (by simp))))
        exact ⟨⟨i + 1, A4, c4, by omega, by go_num, rfl, by rw [HSN.out, HS.out]; exact h4, hw4⟩, by simp [intOf]; omega⟩
      · have hxi : (0 : Int) < (x.toNat : Int) := by
          have : x.toNat ≠ 0 := fun e => hx0 (by rw [← UInt8.toNat_inj]; exact e)
          omega
        have hls := len_sumOf x
        have hbs := build_sum x hx0
        obtain ⟨s, hs⟩ : ∃ s, s = sumOf x := ⟨_, rfl⟩
        rw [← hs] at hls hbs
        have HS := Lib.hid hs
        have HBS := Lib.hid hbs
        clear hs hx0 hbs
        go_wp2_with (first
          | ((with_reducible show wpList _ _ _ (Oper.mk _ (Op.alloc 28) _ _ _ _ :: _) _ _); refine wpList_alloc_agg rfl 28 rfl (arr8 (z8' 32)) zero44 ?_; rw [← HG6.out])
          | ((with_reducible show wpList _ _ _ (Oper.mk (some 14) (Op.build 28 _) _ _ _ _ :: _) _ _); refine wpList_build (by rfl) 28 _ rfl #[] (by simp only [List.map_toArray, List.map_nil]) _ (build44 _) ?_)
          | ((with_reducible show wpList _ _ _ (Oper.mk (some 20) (Op.build 28 _) _ _ _ _ :: _) _ _); refine wpList_build (by rfl) 28 _ rfl #[(0, .int .u8 (x.toNat : Int)), (1, .int .u8 ((x ^^^ 0x55).toNat : Int)), (2, .int .u8 7)] (by simp [Act.eval]) _ (HBS.out _) ?_)
          | ((with_reducible show wpList _ _ _ (Oper.mk none (Op.store 28 (.tmp 6) (.tmp 20)) _ _ _ _ :: _) _ _); refine wpList_store8 rfl 28 (.tmp 6) (.tmp 20) rfl g6 rfl s rfl agg44 hls _ _ hb1 (by rw [size_arr8, len_noS]) ?_; intro v2 hb2 hgr2 hs2; have hw2 := hw1.grown hgr2 hw1.size (fun k hk => by cases hk; exact hgw); have h32 : OwS v2 w.heap.size A3 i c3 (sumsOf (bs.take i)) := Row.keepRow h31 hgr2 (.inr (fun e => H3N.out _ e rfl)); have hz2 := hw2.size; have o2 := SlS.one hls (w := v2) (B := (v2.alloc (.cells (arr8 s) 28)).heap.size) (by simp); have h33 := Row.alloc h32 (.cells (arr8 s) 28))
          | ((with_reducible show wpList _ _ _ (Oper.mk none (Op.store 28 (.tmp 6) (.tmp 14)) _ _ _ _ :: _) _ _); refine wpList_store8 rfl 28 (.tmp 6) (.tmp 14) rfl g6 rfl noS rfl agg44 len_noS _ _ b6 (by rw [size_arr8, len_z8']) ?_; intro v1 hb1 hgr1 hs1; have hw1 := (HW.out.alloc hz (.cells (arr8 (z8' 32)) 28)).grown hgr1 (Nat.le_trans hz (by simp)) (fun k hk => by cases hk; exact hgw); have h31 : OwS v1 w.heap.size A3 i c3 (sumsOf (bs.take i)) := Row.keepRow (Row.alloc H3.out _) hgr1 (.inr (fun e => H3N.out _ e rfl)))
          | ((with_reducible show wpList _ _ _ (Oper.mk _ (Op.load 28 (.tmp 6)) _ _ _ _ :: _) _ _); refine wpList_load_whole (by rfl) 28 (.tmp 6) rfl g6 rfl (arr8 s) agg44 (by rw [size_arr8, hls]) 28 hb2 ?_)
          | ((with_reducible show wpList _ _ _ (Oper.mk (some 23) (Op.buildSlice _ _ _) _ _ _ _ :: _) _ _); refine wpList_one_row (by rfl) 51 (.tmp 22) rfl Try.underlying51 agg44.2 zero44 (by rfl) (by omega) (by omega) (arr8 s) rfl (by rw [size_arr8, hls]) ?_)
          | (at_builtin; refine wpList_appendS rfl (.tmp 21) (.tmp 23) rfl rfl h33 rfl o2 (by omega) (Nat.le_trans hz2 (by simp)) (i + 1) rfl ?_; intro A4 c4 v4 h4 q4; have hw4 : Below w.heap.size w v4 := q4.below h33 (hw2.alloc hz2 _) (Nat.le_refl _) (Nat.le_trans hz2 (by simp))))
        exact ⟨⟨i + 1, A4, c4, by omega, by go_num, rfl, by rw [HSN.out, ← HS.out]; exact h4, hw4⟩, by simp [intOf]; omega⟩
    · obtain rfl : i = n := by omega
      have hii : ¬ (i : Int) < (i : Int) := by omega
      have ht : bs.take i = bs := List.take_of_length_le (by rw [hl.out]; omega)
      rw [ht] at h3
      clear ht
      go_wp2_with fail
      go_ret
      exact ⟨A3, c3, rfl, h3, hw⟩

theorem elt_get (xs : List UInt8) (k : Nat) : xs[k]? = (elt xs (k / 32))[k % 32]? := by
  rw [elt, List.getElem?_take, if_pos (Nat.mod_lt _ (by decide)), List.getElem?_drop, Nat.div_add_mod]
theorem elts_eq {xs ys : List UInt8} {n : Nat} (hx : xs.length = n * 32) (hy : ys.length = n * 32) (h : ∀ j, j < n → elt xs j = elt ys j) : xs = ys := by
  apply List.ext_getElem?
  intro k
  by_cases hk : k < n * 32
  · rw [elt_get xs, elt_get ys, h (k / 32) (by omega)]
  · rw [List.getElem?_eq_none (by omega), List.getElem?_eq_none (by omega)]

set_option maxHeartbeats 2000000 in
theorem same2_c {w : World} {B B' : Nat} {A A' : Option Addr} {n c n' c' : Nat} {xs ys : List UInt8} (ha : SlS w B A n c xs) (hb : SlS w B' A' n' c' ys) (hB : B ≤ w.heap.size) (hB' : B' ≤ w.heap.size) (r : Bool) (hr : (xs == ys) = r) :
    Calls Try.prog 33 #[.slice A n c, .slice A' n' c'] w fun e w' => e = .returned (.bool r) ∧ Below w.heap.size w w' := by
  have hlx := ha.len
  have hly := hb.len
  have hmx := ha.mx
  have hmy := hb.mx
  by_cases hnn : n = n'
  · subst hnn
    have HA := Lib.hid ha
    have HB := Lib.hid hb
    have HR := Lib.hid hr
    have hge := guard44
    clear ha hb hr
    go_enter Try.func33, Try.ntmps33
    go_wp2_with fail
    go_loopw [13] (fun v13 wr => ∃ i : Nat, i ≤ n ∧ v13 = .int .i64 (i : Int) ∧ (∀ j, j < i → elt xs j = elt ys j) ∧ Below w.heap.size w wr ∧ SlS wr B A n c xs ∧ SlS wr B' A' n c' ys) (fun v13 _ => n - (intOf v13).toNat)
    case atStart => exact ⟨0, by omega, rfl, fun j h => by omega, Below.refl _ _, HA.out, HB.out⟩
    case round =>
      clear HA HB
      obtain ⟨i, hi, rfl, hall, hw, hsa, hsb⟩ := hrel
      by_cases hlt : i < n
      · have hii : (i : Int) < (n : Int) := by omega
        have hi0 : (0 : Int) ≤ (i : Int) := by omega
        have hzw := hw.size
        obtain ⟨b1, o1, e1, hb1, hj1⟩ := hsa.at_ (by have := hsa.le; omega)
        obtain ⟨b2, o2, e2, hb2, hj2⟩ := hsb.at_ (by have := hsb.le; omega)
        subst e1
        subst e2
        have L0 : B ≤ wr.heap.size := Nat.le_trans hB hzw
        have L0' : B' ≤ wr.heap.size := Nat.le_trans hB' hzw
        have L1 : b1 < wr.heap.size := Nat.lt_of_lt_of_le hb1 L0
        have L2 : b2 < wr.heap.size := Nat.lt_of_lt_of_le hb2 L0'
        have hex := len_elt hlx hlt
        have hey := len_elt hly hlt
        have hj1 := Lib.hid (hj1 i hlt)
        have hj2 := Lib.hid (hj2 i hlt)
        obtain ⟨x, hx⟩ : ∃ x, x = elt xs i := ⟨_, rfl⟩
        obtain ⟨y, hy⟩ : ∃ y, y = elt ys i := ⟨_, rfl⟩
        rw [← hx] at hj1 hex
        rw [← hy] at hj2 hey
        have HX := Lib.hid hx
        have HY := Lib.hid hy
        have HALL := Lib.hid hall
        obtain ⟨q, hq⟩ : ∃ q, (x == y) = q := ⟨_, rfl⟩
        have he := eq44 x y hex hey q hq
        have SA := Lib.hid hsa
        have SB := Lib.hid hsb
        have HQ := Lib.hid hq
        clear hx hy hall hsa hsb hq
        cases q with
        | true =>
          go_wp2_with fail
          refine wp_region_rel (fun W W' => Below W.heap.size W W') (fun W => Below wr.heap.size wr W)
            [Det (.slice (some ⟨b1, o1, none⟩) n c), Det (.int .i64 (i : Int)), Det (.pointer (some ⟨b1, o1 + i * 32, none⟩)), Det (.agg (arr8 x)), Det (.slice (some ⟨b2, o2, none⟩) n c'), Det (.int .i64 (i : Int)), Det (.pointer (some ⟨b2, o2 + i * 32, none⟩)), Det (.agg (arr8 y)), Det (.bool false)]
            [[], [], [(0, some 16), (1, some 17)], [(2, some 18)], [], [], [(4, some 20), (5, some 21)], [(6, some 22)], [(3, some 19), (7, some 23)]]
            [[], [], [0, 1], [0, 1, 2], [], [], [4, 5], [4, 5, 6], [0, 1, 2, 3, 4, 5, 6, 7]]
            [(0, some 16), (1, some 17), (2, some 18), (3, some 19), (4, some 20), (5, some 21), (6, some 22), (7, some 23), (8, some 24)] (by kernel_rfl) (by kernel_rfl) (fun W W' h1 h2 => h1.trans (h2.mono h1.size)) ((Below.refl _ _).drew) ?_ ?_ ?_
          · exact (AllMono.cons Det.later (AllMono.cons Det.later (AllMono.cons Det.later (AllMono.cons Det.later (AllMono.cons Det.later (AllMono.cons Det.later (AllMono.cons Det.later (AllMono.cons Det.later (AllMono.cons Det.later AllMono.nil)))))))))
          · refine AllOb.cons ?_ (AllOb.cons ?_ (AllOb.cons ?_ (AllOb.cons ?_ (AllOb.cons ?_ (AllOb.cons ?_ (AllOb.cons ?_ (AllOb.cons ?_ (AllOb.cons ?_ (AllOb.nil)))))))))
            · intro uF W hC' hU aF hF
              have hC : Below wr.heap.size wr W := hC'
              clear hC'
              simp only [puts] at hF
              subst hF
              go_wp2_with (fail)
              exact ⟨rfl, rfl, (Below.refl _ _), rfl⟩
            · intro uF W hC' hU aF hF
              have hC : Below wr.heap.size wr W := hC'
              clear hC'
              simp only [puts] at hF
              subst hF
              go_wp2_with (fail)
              exact ⟨rfl, rfl, (Below.refl _ _), rfl⟩
            · intro uF W hC' hU aF hF
              have hC : Below wr.heap.size wr W := hC'
              clear hC'
              have h16 : (Det (.slice (some ⟨b1, o1, none⟩) n c)) (uF 0) W := hU.1
              have h17 : (Det (.int .i64 (i : Int))) (uF 1) W := hU.2.1
              clear hU
              simp only [puts, Act.put, List.setIfInBounds_toArray, List.set_cons_zero, List.set_cons_succ] at hF
              generalize uF 0 = x16 at h16 hF
              generalize uF 1 = x17 at h17 hF
              obtain rfl : x16 = (.slice (some ⟨b1, o1, none⟩) n c) := h16
              obtain rfl : x17 = (.int .i64 (i : Int)) := h17
              subst hF
              go_wp2_with (fail)
              exact ⟨rfl, rfl, (Below.refl _ _), rfl⟩
            · intro uF W hC' hU aF hF
              have hC : Below wr.heap.size wr W := hC'
              clear hC'
              have h18 : (Det (.pointer (some ⟨b1, o1 + i * 32, none⟩))) (uF 2) W := hU.1
              clear hU
              simp only [puts, Act.put, List.setIfInBounds_toArray, List.set_cons_zero, List.set_cons_succ] at hF
              generalize uF 2 = x18 at h18 hF
              obtain rfl : x18 = (.pointer (some ⟨b1, o1 + i * 32, none⟩)) := h18
              subst hF
              go_wp2_with (((with_reducible show wpList _ _ _ (Oper.mk _ (Op.load 28 _) _ _ _ _ :: _) _ _); refine wpList_load_agg (by rfl) 28 (.tmp 18) rfl b1 (o1 + i * 32) rfl (arr8 x) agg44 (by rw [size_arr8, hex]) (fun j v hv => (hC.cell (show (⟨b1, o1 + i * 32 + j, none⟩ : Addr).block < wr.heap.size from L1)).trans (hj1.out j v hv)) ?_))
              exact ⟨rfl, rfl, (Below.refl _ _), rfl⟩
            · intro uF W hC' hU aF hF
              have hC : Below wr.heap.size wr W := hC'
              clear hC'
              simp only [puts] at hF
              subst hF
              go_wp2_with (fail)
              exact ⟨rfl, rfl, (Below.refl _ _), rfl⟩
            · intro uF W hC' hU aF hF
              have hC : Below wr.heap.size wr W := hC'
              clear hC'
              simp only [puts] at hF
              subst hF
              go_wp2_with (fail)
              exact ⟨rfl, rfl, (Below.refl _ _), rfl⟩
            · intro uF W hC' hU aF hF
              have hC : Below wr.heap.size wr W := hC'
              clear hC'
              have h20 : (Det (.slice (some ⟨b2, o2, none⟩) n c')) (uF 4) W := hU.1
              have h21 : (Det (.int .i64 (i : Int))) (uF 5) W := hU.2.1
              clear hU
              simp only [puts, Act.put, List.setIfInBounds_toArray, List.set_cons_zero, List.set_cons_succ] at hF
              generalize uF 4 = x20 at h20 hF
              generalize uF 5 = x21 at h21 hF
              obtain rfl : x20 = (.slice (some ⟨b2, o2, none⟩) n c') := h20
              obtain rfl : x21 = (.int .i64 (i : Int)) := h21
              subst hF
              go_wp2_with (fail)
              exact ⟨rfl, rfl, (Below.refl _ _), rfl⟩
            · intro uF W hC' hU aF hF
              have hC : Below wr.heap.size wr W := hC'
              clear hC'
              have h22 : (Det (.pointer (some ⟨b2, o2 + i * 32, none⟩))) (uF 6) W := hU.1
              clear hU
              simp only [puts, Act.put, List.setIfInBounds_toArray, List.set_cons_zero, List.set_cons_succ] at hF
              generalize uF 6 = x22 at h22 hF
              obtain rfl : x22 = (.pointer (some ⟨b2, o2 + i * 32, none⟩)) := h22
              subst hF
              go_wp2_with (((with_reducible show wpList _ _ _ (Oper.mk _ (Op.load 28 _) _ _ _ _ :: _) _ _); refine wpList_load_agg (by rfl) 28 (.tmp 22) rfl b2 (o2 + i * 32) rfl (arr8 y) agg44 (by rw [size_arr8, hey]) (fun j v hv => (hC.cell (show (⟨b2, o2 + i * 32 + j, none⟩ : Addr).block < wr.heap.size from L2)).trans (hj2.out j v hv)) ?_))
              exact ⟨rfl, rfl, (Below.refl _ _), rfl⟩
            · intro uF W hC' hU aF hF
              have hC : Below wr.heap.size wr W := hC'
              clear hC'
              have h19 : (Det (.agg (arr8 x))) (uF 3) W := hU.1
              have h23 : (Det (.agg (arr8 y))) (uF 7) W := hU.2.1
              clear hU
              simp only [puts, Act.put, List.setIfInBounds_toArray, List.set_cons_zero, List.set_cons_succ] at hF
              generalize uF 3 = x19 at h19 hF
              generalize uF 7 = x23 at h23 hF
              obtain rfl : x19 = (.agg (arr8 x)) := h19
              obtain rfl : x23 = (.agg (arr8 y)) := h23
              subst hF
              have he2 := he
              have hg := hge
              go_wp2_with (fail)
              exact ⟨rfl, rfl, (Below.refl _ _), rfl⟩
          intro uF W5 hC' hU aF hF
          have hCW5 : Below wr.heap.size wr W5 := hC'
          clear hC'
          have h24 : (Det (.bool false)) (uF 8) W5 := hU.2.2.2.2.2.2.2.2.1
          clear hU
          simp only [puts, Act.put, List.setIfInBounds_toArray, List.set_cons_zero, List.set_cons_succ] at hF
          generalize uF 0 = x16 at hF
          generalize uF 1 = x17 at hF
          generalize uF 2 = x18 at hF
          generalize uF 3 = x19 at hF
          generalize uF 4 = x20 at hF
          generalize uF 5 = x21 at hF
          generalize uF 6 = x22 at hF
          generalize uF 7 = x23 at hF
          generalize uF 8 = x24 at h24 hF
          obtain rfl : x24 = (.bool false) := h24
          subst hF
          go_wp2_with fail
          refine ⟨⟨i + 1, by omega, by go_num, fun j hj => ?_, hw.trans (hCW5.mono hw.size), SA.out.below (hCW5.mono L0), SB.out.below (hCW5.mono L0')⟩, by simp [intOf]; omega⟩
          rcases Nat.lt_or_ge j i with h | h
          · exact HALL.out j h
          · obtain rfl : j = i := by omega
            rw [← HX.out, ← HY.out]
            simpa using HQ.out
        | false =>
          go_wp2_with fail
          refine wp_region_rel (fun W W' => Below W.heap.size W W') (fun W => Below wr.heap.size wr W)
            [Det (.slice (some ⟨b1, o1, none⟩) n c), Det (.int .i64 (i : Int)), Det (.pointer (some ⟨b1, o1 + i * 32, none⟩)), Det (.agg (arr8 x)), Det (.slice (some ⟨b2, o2, none⟩) n c'), Det (.int .i64 (i : Int)), Det (.pointer (some ⟨b2, o2 + i * 32, none⟩)), Det (.agg (arr8 y)), Det (.bool true)]
            [[], [], [(0, some 16), (1, some 17)], [(2, some 18)], [], [], [(4, some 20), (5, some 21)], [(6, some 22)], [(3, some 19), (7, some 23)]]
            [[], [], [0, 1], [0, 1, 2], [], [], [4, 5], [4, 5, 6], [0, 1, 2, 3, 4, 5, 6, 7]]
            [(0, some 16), (1, some 17), (2, some 18), (3, some 19), (4, some 20), (5, some 21), (6, some 22), (7, some 23), (8, some 24)] (by kernel_rfl) (by kernel_rfl) (fun W W' h1 h2 => h1.trans (h2.mono h1.size)) ((Below.refl _ _).drew) ?_ ?_ ?_
          · exact (AllMono.cons Det.later (AllMono.cons Det.later (AllMono.cons Det.later (AllMono.cons Det.later (AllMono.cons Det.later (AllMono.cons Det.later (AllMono.cons Det.later (AllMono.cons Det.later (AllMono.cons Det.later AllMono.nil)))))))))
          · refine AllOb.cons ?_ (AllOb.cons ?_ (AllOb.cons ?_ (AllOb.cons ?_ (AllOb.cons ?_ (AllOb.cons ?_ (AllOb.cons ?_ (AllOb.cons ?_ (AllOb.cons ?_ (AllOb.nil)))))))))
            · intro uF W hC' hU aF hF
              have hC : Below wr.heap.size wr W := hC'
              clear hC'
              simp only [puts] at hF
              subst hF
              go_wp2_with (fail)
              exact ⟨rfl, rfl, (Below.refl _ _), rfl⟩
            · intro uF W hC' hU aF hF
              have hC : Below wr.heap.size wr W := hC'
              clear hC'
              simp only [puts] at hF
              subst hF
              go_wp2_with (fail)
              exact ⟨rfl, rfl, (Below.refl _ _), rfl⟩
            · intro uF W hC' hU aF hF
              have hC : Below wr.heap.size wr W := hC'
              clear hC'
              have h16 : (Det (.slice (some ⟨b1, o1, none⟩) n c)) (uF 0) W := hU.1
              have h17 : (Det (.int .i64 (i : Int))) (uF 1) W := hU.2.1
              clear hU
              simp only [puts, Act.put, List.setIfInBounds_toArray, List.set_cons_zero, List.set_cons_succ] at hF
              generalize uF 0 = x16 at h16 hF
              generalize uF 1 = x17 at h17 hF
              obtain rfl : x16 = (.slice (some ⟨b1, o1, none⟩) n c) := h16
              obtain rfl : x17 = (.int .i64 (i : Int)) := h17
              subst hF
              go_wp2_with (fail)
              exact ⟨rfl, rfl, (Below.refl _ _), rfl⟩
            · intro uF W hC' hU aF hF
              have hC : Below wr.heap.size wr W := hC'
              clear hC'
              have h18 : (Det (.pointer (some ⟨b1, o1 + i * 32, none⟩))) (uF 2) W := hU.1
              clear hU
              simp only [puts, Act.put, List.setIfInBounds_toArray, List.set_cons_zero, List.set_cons_succ] at hF
              generalize uF 2 = x18 at h18 hF
              obtain rfl : x18 = (.pointer (some ⟨b1, o1 + i * 32, none⟩)) := h18
              subst hF
              go_wp2_with (((with_reducible show wpList _ _ _ (Oper.mk _ (Op.load 28 _) _ _ _ _ :: _) _ _); refine wpList_load_agg (by rfl) 28 (.tmp 18) rfl b1 (o1 + i * 32) rfl (arr8 x) agg44 (by rw [size_arr8, hex]) (fun j v hv => (hC.cell (show (⟨b1, o1 + i * 32 + j, none⟩ : Addr).block < wr.heap.size from L1)).trans (hj1.out j v hv)) ?_))
              exact ⟨rfl, rfl, (Below.refl _ _), rfl⟩
            · intro uF W hC' hU aF hF
              have hC : Below wr.heap.size wr W := hC'
              clear hC'
              simp only [puts] at hF
              subst hF
              go_wp2_with (fail)
              exact ⟨rfl, rfl, (Below.refl _ _), rfl⟩
            · intro uF W hC' hU aF hF
              have hC : Below wr.heap.size wr W := hC'
              clear hC'
              simp only [puts] at hF
              subst hF
              go_wp2_with (fail)
              exact ⟨rfl, rfl, (Below.refl _ _), rfl⟩
            · intro uF W hC' hU aF hF
              have hC : Below wr.heap.size wr W := hC'
              clear hC'
              have h20 : (Det (.slice (some ⟨b2, o2, none⟩) n c')) (uF 4) W := hU.1
              have h21 : (Det (.int .i64 (i : Int))) (uF 5) W := hU.2.1
              clear hU
              simp only [puts, Act.put, List.setIfInBounds_toArray, List.set_cons_zero, List.set_cons_succ] at hF
              generalize uF 4 = x20 at h20 hF
              generalize uF 5 = x21 at h21 hF
              obtain rfl : x20 = (.slice (some ⟨b2, o2, none⟩) n c') := h20
              obtain rfl : x21 = (.int .i64 (i : Int)) := h21
              subst hF
              go_wp2_with (fail)
              exact ⟨rfl, rfl, (Below.refl _ _), rfl⟩
            · intro uF W hC' hU aF hF
              have hC : Below wr.heap.size wr W := hC'
              clear hC'
              have h22 : (Det (.pointer (some ⟨b2, o2 + i * 32, none⟩))) (uF 6) W := hU.1
              clear hU
              simp only [puts, Act.put, List.setIfInBounds_toArray, List.set_cons_zero, List.set_cons_succ] at hF
              generalize uF 6 = x22 at h22 hF
              obtain rfl : x22 = (.pointer (some ⟨b2, o2 + i * 32, none⟩)) := h22
              subst hF
              go_wp2_with (((with_reducible show wpList _ _ _ (Oper.mk _ (Op.load 28 _) _ _ _ _ :: _) _ _); refine wpList_load_agg (by rfl) 28 (.tmp 22) rfl b2 (o2 + i * 32) rfl (arr8 y) agg44 (by rw [size_arr8, hey]) (fun j v hv => (hC.cell (show (⟨b2, o2 + i * 32 + j, none⟩ : Addr).block < wr.heap.size from L2)).trans (hj2.out j v hv)) ?_))
              exact ⟨rfl, rfl, (Below.refl _ _), rfl⟩
            · intro uF W hC' hU aF hF
              have hC : Below wr.heap.size wr W := hC'
              clear hC'
              have h19 : (Det (.agg (arr8 x))) (uF 3) W := hU.1
              have h23 : (Det (.agg (arr8 y))) (uF 7) W := hU.2.1
              clear hU
              simp only [puts, Act.put, List.setIfInBounds_toArray, List.set_cons_zero, List.set_cons_succ] at hF
              generalize uF 3 = x19 at h19 hF
              generalize uF 7 = x23 at h23 hF
              obtain rfl : x19 = (.agg (arr8 x)) := h19
              obtain rfl : x23 = (.agg (arr8 y)) := h23
              subst hF
              have he2 := he
              have hg := hge
              go_wp2_with (fail)
              exact ⟨rfl, rfl, (Below.refl _ _), rfl⟩
          intro uF W5 hC' hU aF hF
          have hCW5 : Below wr.heap.size wr W5 := hC'
          clear hC'
          have h24 : (Det (.bool true)) (uF 8) W5 := hU.2.2.2.2.2.2.2.2.1
          clear hU
          simp only [puts, Act.put, List.setIfInBounds_toArray, List.set_cons_zero, List.set_cons_succ] at hF
          generalize uF 0 = x16 at hF
          generalize uF 1 = x17 at hF
          generalize uF 2 = x18 at hF
          generalize uF 3 = x19 at hF
          generalize uF 4 = x20 at hF
          generalize uF 5 = x21 at hF
          generalize uF 6 = x22 at hF
          generalize uF 7 = x23 at hF
          generalize uF 8 = x24 at h24 hF
          obtain rfl : x24 = (.bool true) := h24
          subst hF
          go_wp2_with fail
          have hrf : r = false := by
            rw [← HR.out, beq_eq_false_iff_ne]
            rintro rfl
            have h1 := HQ.out
            rw [HX.out, HY.out] at h1
            simp at h1
          go_ret
          exact ⟨by rw [hrf]; rfl, hw.trans (hCW5.mono hw.size)⟩
      · obtain rfl : i = n := by omega
        have hii : ¬ (i : Int) < (i : Int) := by omega
        have hxy : xs = ys := elts_eq hlx hly hall
        go_wp2_with fail
        go_ret
        exact ⟨by rw [← HR.out, hxy]; simp, hw⟩
  · have hne : ¬ (n : Int) = (n' : Int) := by omega
    have hbe : ((n : Int) != (n' : Int)) = true := by rw [bne_iff_ne]; exact hne
    have hrf : r = false := by
      rw [← hr, beq_eq_false_iff_ne]
      rintro rfl
      omega
    clear ha hb hr
    go_enter Try.func33, Try.ntmps33
    go_wp2_with fail
    go_ret
    exact ⟨by rw [hrf]; rfl, Below.refl _ _⟩
end Go.Proofs.Ytdifepfplfkfoaa

