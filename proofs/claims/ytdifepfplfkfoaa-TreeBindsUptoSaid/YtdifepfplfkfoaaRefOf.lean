/-
  The reference's Of.
-/
import Derived.Test.YtdifepfplfkfoaaOf
import Derived.Test.YtdifepfplfkfoaaRefD
import Derived.Test.YtdifepfplfkfoaaBase
namespace Go.Proofs.Ytdifepfplfkfoaa
open Go.RowKit Go.Shelf
set_option linter.unusedVariables false
set_option linter.unusedSimpArgs false
set_option maxRecDepth 100000
attribute [local go_sem] Oper.semAt_some

theorem out8_at (hs : List UInt32) : ∀ (q r i : Nat), q < hs.length → r < 4 → i = 4 * q + r → (out8 hs)[i]?.getD 0 = UInt8.ofNat ((hs[q]?.getD 0).toNat / 2 ^ (24 - 8 * r)) := by
  induction hs with
  | nil => intro q r i h; simp at h
  | cons x hs ih =>
    intro q r i h hr hi
    have e : out8 (x :: hs) = bigB x.toNat 4 ++ out8 hs := rfl
    rw [e]
    cases q with
    | zero =>
      rw [List.getElem?_append_left (by rw [len_bigB]; omega), bigB_get _ _ _ (by omega)]
      obtain rfl : i = r := by omega
      have hp : 256 ^ (4 - 1 - i) = 2 ^ (24 - 8 * i) := by
        match i, hr with
        | 0, _ => rfl
        | 1, _ => rfl
        | 2, _ => rfl
        | 3, _ => rfl
        | _ + 4, h => omega
      rw [hp]; rfl
    | succ q =>
      rw [List.getElem?_append_right (by rw [len_bigB]; omega), len_bigB, ih q r (i - 4) (by simpa using h) hr (by omega)]
      rfl
theorem arr8_some (l : List UInt8) (i : Nat) (h : i < l.length) : ((arr8 l)[i]?).isSome = true := by rw [arr8_get, List.getElem?_eq_getElem h]; rfl

theorem arr8_put (l : List UInt8) (i n : Nat) (hi : i < l.length) (hn : l.length ≤ n) (y : UInt8) (hy : y = l[i]?.getD 0) : (arr8 (l.take i ++ z8' (n - i))).setIfInBounds i (.int .u8 (y.toNat : Int)) = arr8 (l.take (i + 1) ++ z8' (n - (i + 1))) := by
  have hb : (.int .u8 (y.toNat : Int) : Value) = b8 y := rfl
  rw [arr8, arr8, hb, List.setIfInBounds_toArray, ← List.map_set]
  congr 2
  have hl : (l.take i).length = i := by rw [List.length_take]; omega
  rw [List.set_append_right _ _ (by omega), hl, Nat.sub_self, show n - i = (n - (i + 1)) + 1 from by omega, z8', List.replicate_succ, List.set_cons_zero, hy, List.getElem?_eq_getElem hi, List.take_succ_eq_append_getElem hi, List.append_assoc]
  rfl
theorem shR_byte (x : UInt32) (m : Nat) : ((shR x m).toNat : Int) % 256 = ((UInt8.ofNat (x.toNat / 2 ^ m)).toNat : Int) := by
  have hx := UInt32.toNat_lt x
  have := Nat.div_le_self x.toNat (2 ^ m)
  rw [shR, UInt32.toNat_ofNat', Nat.mod_eq_of_lt (by omega), UInt8.toNat_ofNat']
  omega

set_option maxHeartbeats 4000000 in
theorem refof_c {w : World} {B : Nat} {A : Option Addr} {n c : Nat} {bs : List UInt8} (ha : SlB w B A n c bs) (hB : B ≤ w.heap.size) (hn : n ≤ 1099511627776) :
    Calls Try.prog 37 #[.slice A n c] w fun e w' => e = .returned (.agg (arr8 (sha bs))) ∧ Below w.heap.size w w' := by
  have b0 := Blk.new w 28 (arr8 (z8' 32))
  have hw0 : Below w.heap.size w (w.alloc (.cells (arr8 (z8' 32)) 28)) := (Below.refl _ _).alloc (Nat.le_refl _) _
  have ha0 := ha.alloc hB (.cells (arr8 (z8' 32)) 28)
  have hl0 := Lib.hid ha0.len
  obtain ⟨w1, hw1⟩ : ∃ w1, w1 = w.alloc (.cells (arr8 (z8' 32)) 28) := ⟨_, rfl⟩
  rw [← hw1] at b0 hw0 ha0
  have HW1 := Lib.hid hw1
  have hz1 := hw0.size
  have hB1 : B ≤ w1.heap.size := Nat.le_trans hB hz1
  have hbo := b0.lt
  have h10 : OwB (w1.alloc (.cells #[] 5)) w1.heap.size (some ⟨w1.heap.size, 0, none⟩) 0 0 [] := OwB.nil _ _ _
  have h11 := ha0.alloc hB1 (.cells #[] 5)
  have hni : (n : Int) ≤ 1099511627776 := by omega
  have hwf : (Lit.int .i64 (n : Int)).wf = true := wf_i64' (by omega) (by omega)
  have hpn := padN_nat n hn
  have HA := Lib.hid ha0
  have HWF := Lib.hid hwf
  have HPN := Lib.hid hpn
  have hLN : n + (9 + padZ n) = 64 * pieceN n := by
    have h : padZ n = (119 - n % 64) % 64 := rfl
    rw [pieceN]; omega
  have hpz : padZ n < 64 := padZ_lt n
  clear ha hw1 ha0 hwf hpn
  go_enter Try.func37, Try.ntmps37
  go_wp2_with (first
    | ((with_reducible show wpList _ _ _ (Oper.mk _ (Op.alloc 28) _ _ _ _ :: _) _ _); refine wpList_alloc_agg rfl 28 rfl (arr8 (z8' 32)) zero44 ?_; (try rw [World.size_alloc]); rw [← HW1.out]; simp only [Act.put, List.setIfInBounds_toArray, List.set_cons_succ, List.set_cons_zero])
    | (at_builtin; refine wpList_append8 rfl (.tmp 9) (.tmp 10) rfl rfl h10 rfl h11 (by omega) (by simp) n (by omega) ?_; intro A2 c2 w2 h2 q2; have hb2 : Below w1.heap.size w1 w2 := q2.below h10 ((Below.refl _ _).alloc (Nat.le_refl _) _) (Nat.le_refl _) (by simp))
    | (at_builtin; refine wpList_append8 rfl (.tmp 11) (.tmp 14) rfl rfl (h2.below hb3) rfl h3.sl (by omega) (Nat.le_trans hb2.size hb3.size) (64 * pieceN n) hLN ?_; intro A4 c4 w4 h4 q4; have hb4 : Below w1.heap.size w1 w4 := q4.below (h2.below hb3) (hb2.trans (hb3.mono hb2.size)) (Nat.le_refl _) (Nat.le_trans hb2.size hb3.size))
    | (go_at_call 57; refine (refpad_c (n : Int) HWF.out w2).mono ?_; rintro e w3 ⟨A3, c3, rfl, h3, hb3⟩; rw [HPN.out] at h3 ⊢)
    | (go_at_call 58; refine (digestTake.table_c _).mono ?_; rintro e w5 ⟨rfl, hb5⟩; have b5 := (Blk.new w5 95 (arr32 (z32 64))).alloc (.cells (arr32 (z32 8)) 88); have b6 := Blk.new (w5.alloc (.cells (arr32 (z32 64)) 95)) 88 (arr32 (z32 8)); rw [World.size_alloc] at b6)
    | ((with_reducible show wpList _ _ _ (Oper.mk _ (Op.alloc 95) _ _ _ _ :: _) _ _); refine wpList_alloc_agg rfl 95 rfl (arr32 (z32 64)) zero24 ?_; (try rw [World.size_alloc]))
    | ((with_reducible show wpList _ _ _ (Oper.mk _ (Op.alloc 88) _ _ _ _ :: _) _ _); refine wpList_alloc_agg rfl 88 rfl (arr32 (z32 8)) zero26 ?_; (try rw [World.size_alloc]))
    | ((with_reducible show wpList _ _ _ (Oper.mk none (Op.store 95 _ _) _ _ _ _ :: _) _ _); refine wpList_store32 rfl 95 (.tmp 4) (.tmp 18) rfl w5.heap.size rfl K64 rfl agg24 len_K64 _ _ b5 (by rw [size_arr32, len_z32]) ?_; intro w6 hb6 hg6 hs6; have b6' := b6.grown hg6 (by simp))
    | ((with_reducible show wpList _ _ _ (Oper.mk none (Op.store 88 _ _) _ _ _ _ :: _) _ _); refine wpList_store32 rfl 88 (.tmp 5) (.tmp 19) rfl (w5.heap.size + 1) rfl H8 rfl agg26 len_H8 _ _ b6' (by rw [size_arr32, len_z32]) ?_; intro w7 hb7 hg7 hs7; have hk7 := hb6.grown hg7 (by simp); simp only [Act.put, List.setIfInBounds_toArray, List.set_cons_succ, List.set_cons_zero]))
  have hz4 := hb4.size
  have hb47 : Below w4.heap.size w4 w7 := ((((hb5.alloc hb5.size _).alloc (Nat.le_trans hb5.size (by simp)) _).grown hg6 (Nat.le_trans hb5.size (by simp; omega)) (fun k hk => by cases hk; exact hb5.size)).grown hg7 (by rw [hs6]; exact Nat.le_trans hb5.size (by simp; omega)) (fun k hk => by cases hk; exact Nat.le_trans hb5.size (by omega)))
  have hpad : [] ++ bs ++ padB n = padded bs := by rw [List.nil_append, padded, hl0.out]
  rw [hpad] at h4
  have hLpos : 0 < 64 * pieceN n := by omega
  have hA4 : ∀ g, A4 = some ⟨g, 0, none⟩ → g < w4.heap.size := fun g e => by
    obtain ⟨g', cur, e', _, hbk, _⟩ := h4.open_ (by have := h4.le; omega)
    rw [e] at e'
    cases e'
    exact hbk.lt
  have hrow := h4.below hb47
  have hb17 := hb4.trans (hb47.mono hz4)
  have hbz := b0.below hb17 hbo
  have hb07 : Below w.heap.size w w7 := hw0.trans (hb17.mono hz1)
  have h45 := hb5.size
  obtain ⟨kb, hkb⟩ : ∃ kb, kb = w5.heap.size := ⟨_, rfl⟩
  rw [← hkb] at hk7 hb7 h45 ⊢
  have hwk : w.heap.size < kb := by omega
  have hA4 : ∀ g, A4 = some ⟨g, 0, none⟩ → g < kb := fun g e => Nat.lt_of_lt_of_le (hA4 g e) h45
  obtain ⟨N, hN⟩ : ∃ N, N = pieceN n := ⟨_, rfl⟩
  obtain ⟨L, hL⟩ : ∃ L, L = 64 * N := ⟨_, rfl⟩
  rw [← hN, ← hL] at hrow
  rw [← hN, ← hL]
  have hL64 : L ≤ 1099511628000 := by omega
  have HN := Lib.hid hN
  have HLL := Lib.hid hL
  clear hkb hN hL hpad h4 h2 h3 hb2 hb3 hb4 hb5 b5 b6 b6' hb6 hg6 hs6 hg7 hs7 q2 q4 h10 h11 hLN hLpos hb47 hb17 hz4 b0 hbo hw0 hz1 hB1
  go_loopw [6] (fun v6 wr => ∃ k i : Nat, k ≤ N ∧ i = 64 * k ∧ i ≤ L ∧ v6 = .int .i64 (i : Int) ∧ Blk wr (kb + 1) 88 (arr32 (shaTo bs k)) ∧ Blk wr kb 95 (arr32 K64) ∧ OwB wr w1.heap.size A4 L c4 (padded bs) ∧ Blk wr w.heap.size 28 (arr8 (z8' 32)) ∧ Below w.heap.size w wr) (fun v6 _ => L - (intOf v6).toNat)
  case atStart => exact ⟨0, 0, by omega, rfl, by omega, rfl, hb7, hk7, hrow, hbz, hb07⟩
  case round =>
    clear hb7 hk7 hrow hbz hb07
    obtain ⟨k, i, hk, hi, hiL, rfl, C5, C4, C3, C0, hb⟩ := hrel
    by_cases hlt : k < N
    · have hi64 : i + 64 ≤ L := by rw [HLL.out]; omega
      have hil : (i : Int) < (L : Int) := by omega
      obtain ⟨A5, h5, hcut⟩ := C3.sl.cutRun (lo := i) (hi := i + 64) (by omega) hi64 (i : Int) ((i : Int) + 64) rfl (by omega)
      rw [Nat.add_sub_cancel_left] at h5 hcut
      have hpc : ((padded bs).drop i).take 64 = pieceAt bs k := by rw [pieceAt, hi]
      rw [hpc] at h5
      have hl8 := len_shaTo bs k
      have hl48 := len_sched (pieceAt bs k)
      have hnx : shaTo bs (k + 1) = takeH (shaTo bs k) (sched (pieceAt bs k)) := rfl
      obtain ⟨hs, hhs⟩ : ∃ hs, hs = shaTo bs k := ⟨_, rfl⟩
      obtain ⟨pc, hpcv⟩ : ∃ pc, pc = pieceAt bs k := ⟨_, rfl⟩
      rw [← hhs] at hl8 C5 hnx
      rw [← hpcv] at hl48 h5 hnx
      have HI := Lib.hid hi
      have HNX := Lib.hid hnx
      have HC0 := Lib.hid C0
      have HC3 := Lib.hid C3
      have HBw := Lib.hid hb
      have H5 := Lib.hid h5
      clear hhs hpcv hpc hnx hi C0 C3 hb h5
      go_wp2_with fail
      have hV0 : Below wr.drew.heap.size wr.drew wr.drew := Below.refl _ _
      have hwrap : IntKind.i64.wrap ((i : Int) + 64) = (i : Int) + 64 := IntWalk.i64_in _ (by omega)
      have h5 : SlB wr.drew wr.drew.heap.size A5 64 (c4 - i) pc := SlB.drewN H5.out 1
      have C4 := C4.drew
      have C5 := C5.drew
      refine Code.wp_mono (Q := Exit.then (fun a' w' => a' = { tmps := #[Value.slice A n c, undef, Value.pointer (some ⟨w.heap.size, 0, none⟩), Value.slice A4 L c4, Value.pointer (some ⟨kb, 0, none⟩), Value.pointer (some ⟨kb + 1, 0, none⟩), Value.int IntKind.i64 (i : Int), undef, undef, Value.slice (some ⟨w1.heap.size, 0, none⟩) 0 0,
          Value.slice A n c, Value.slice A2 n c2, Value.slice A n c, Value.int IntKind.i64 (n : Int), Value.slice A3 (9 + padZ n) c3, Value.slice A4 L c4, Value.tuple #[Value.agg (arr32 K64), Value.agg (arr32 H8)], Value.tuple #[Value.agg (arr32 K64), Value.agg (arr32 H8)], Value.agg (arr32 K64), Value.agg (arr32 H8),
          Value.int IntKind.i64 (i : Int), Value.slice A4 L c4, Value.int IntKind.i64 (L : Int), Value.bool true, u24, u25, Value.agg (arr32 hs), Value.slice A4 L c4, Value.int IntKind.i64 (i : Int), Value.int IntKind.i64 (i : Int), Value.int IntKind.i64 ((i : Int) + 64), Value.slice A5 64 (c4 - i), Value.agg (arr32 (sched pc)), Value.agg (arr32 K64), Value.agg (arr32 (takeH hs (sched pc))),
          undef, undef, undef, undef, undef, undef, undef, undef, undef, undef, undef, undef, undef, undef, undef, undef, undef, undef], defers := [] } ∧
        ∃ w6, Below wr.drew.heap.size wr.drew w6 ∧ w6.grownBy w' (some (kb + 1)) ∧ Blk w' (kb + 1) 88 (arr32 (takeH hs (sched pc)))) (fun _ _ _ => False)) ?_ ?_
      rotate_left
      · have fin : ∀ (W7 W6 : World), Blk W7 (kb + 1) 88 (arr32 (takeH hs (sched pc))) → W6.grownBy W7 (some (kb + 1)) → Below wr.drew.heap.size wr.drew W6 → ∃ w6, Below wr.drew.heap.size wr.drew w6 ∧ w6.grownBy W7 (some (kb + 1)) ∧ Blk W7 (kb + 1) 88 (arr32 (takeH hs (sched pc))) := fun W7 W6 h1 h2 h3 => ⟨W6, h3, h2, h1⟩
        refine wp_region_any (by kernel_rfl) ?_
        show wpAny _ _ _ _ 10 #[false, false, false, false, false, false, false, false, false, false] _ _
        refine wpAny_take (i := 1) rfl (by kernel_rfl) (by kernel_rfl) (by kernel_rfl) (fun _ _ _ h => h) (Or.inl ⟨by rfl, by intro w; go_simp; first | done | with_reducible rfl⟩) ?_
        simp only [List.getElem_toArray, List.getElem_cons_zero, List.getElem_cons_succ, Act.put, List.setIfInBounds_toArray, List.set_cons_succ, List.set_cons_zero]
        show wpAny _ _ _ _ 9 #[false, true, false, false, false, false, false, false, false, false] _ _
        refine wpAny_take (i := 2) rfl (by kernel_rfl) (by kernel_rfl) (by kernel_rfl) (fun _ _ _ h => h) (Or.inl ⟨by rfl, by intro w; go_simp; first | done | with_reducible rfl⟩) ?_
        simp only [List.getElem_toArray, List.getElem_cons_zero, List.getElem_cons_succ, Act.put, List.setIfInBounds_toArray, List.set_cons_succ, List.set_cons_zero]
        show wpAny _ _ _ _ 8 #[false, true, true, false, false, false, false, false, false, false] _ _
        refine wpAny_take (i := 3) rfl (by kernel_rfl) (by kernel_rfl) (by kernel_rfl) (fun _ _ _ h => h) (Or.inl ⟨by rfl, by intro w; go_simp; first | done | with_reducible rfl⟩) ?_
        simp only [List.getElem_toArray, List.getElem_cons_zero, List.getElem_cons_succ, Act.put, List.setIfInBounds_toArray, List.set_cons_succ, List.set_cons_zero]
        show wpAny _ _ _ _ 7 #[false, true, true, true, false, false, false, false, false, false] _ _
        refine wpAny_take (i := 4) rfl (by kernel_rfl) (by kernel_rfl) (by kernel_rfl) (fun _ _ _ h => h) (Or.inl ⟨by rfl, by intro w; go_simp; first | done | with_reducible rfl⟩) ?_
        simp only [List.getElem_toArray, List.getElem_cons_zero, List.getElem_cons_succ, Act.put, List.setIfInBounds_toArray, List.set_cons_succ, List.set_cons_zero]
        show wpAny _ _ _ _ 6 #[false, true, true, true, true, false, false, false, false, false] _ _
        refine wpAny_take (i := 5) rfl (by kernel_rfl) (by kernel_rfl) (by kernel_rfl) (fun _ _ _ h => h) (Or.inl ⟨by rfl, by intro w; go_simp; first | done | with_reducible rfl⟩) ?_
        simp only [List.getElem_toArray, List.getElem_cons_zero, List.getElem_cons_succ, Act.put, List.setIfInBounds_toArray, List.set_cons_succ, List.set_cons_zero]
        show wpAny _ _ _ _ 5 #[false, true, true, true, true, true, false, false, false, false] _ _
        refine wpAny_ready (rs := [0, 6, 7]) (by kernel_rfl) (by simp) ?_
        refine AllReady.cons rfl (fun K hK => ?_) (AllReady.cons rfl (fun K hK => ?_) (AllReady.cons rfl (fun K hK => ?_) (AllReady.nil)))
        · skip
          refine arm_load_blk rfl 88 (.tmp 5) rfl (kb + 1) rfl _ agg26 (by rw [size_arr32, hl8]) (Blk.below C5 (by assumption) C5.lt) (hK _ _ ?_)
          simp only [List.getElem_toArray, List.getElem_cons_zero, List.getElem_cons_succ, Act.put, List.setIfInBounds_toArray, List.set_cons_succ, List.set_cons_zero]
          clear hK K
          show wpAny _ _ _ _ 4 #[true, true, true, true, true, true, false, false, false, false] _ _
          refine wpAny_ready (rs := [6, 7]) (by kernel_rfl) (by simp) ?_
          refine AllReady.cons rfl (fun K hK => ?_) (AllReady.cons rfl (fun K hK => ?_) (AllReady.nil))
          · skip
            go_simp
            refine (refsched_c (SlB.below h5 hV0) hV0.size).mono ?_
            rintro e W12 ⟨rfl, hb12⟩
            have hV12 := hV0.trans (hb12.mono hV0.size)
            refine hK _ _ ?_
            simp only [List.getElem_toArray, List.getElem_cons_zero, List.getElem_cons_succ, Act.put, List.setIfInBounds_toArray, List.set_cons_succ, List.set_cons_zero]
            clear hK K
            show wpAny _ _ _ _ 3 #[true, true, true, true, true, true, true, false, false, false] _ _
            refine wpAny_ready (rs := [7]) (by kernel_rfl) (by simp) ?_
            refine AllReady.cons rfl (fun K hK => ?_) (AllReady.nil)
            refine arm_load_blk rfl 95 (.tmp 4) rfl kb rfl _ agg24 (by rw [size_arr32, len_K64]) (Blk.below C4 (by assumption) C4.lt) (hK _ _ ?_)
            simp only [List.getElem_toArray, List.getElem_cons_zero, List.getElem_cons_succ, Act.put, List.setIfInBounds_toArray, List.set_cons_succ, List.set_cons_zero]
            clear hK K
            show wpAny _ _ _ _ 2 #[true, true, true, true, true, true, true, true, false, false] _ _
            refine wpAny_ready (rs := [8]) (by kernel_rfl) (by simp) ?_
            refine AllReady.cons rfl (fun K hK => ?_) (AllReady.nil)
            go_simp
            refine (digestTake.reftakeK hs (sched pc) hl8 hl48 _).mono ?_
            rintro e W14 ⟨rfl, hb14⟩
            have hV14 := hV12.trans (hb14.mono hV12.size)
            refine hK _ _ ?_
            simp only [List.getElem_toArray, List.getElem_cons_zero, List.getElem_cons_succ, Act.put, List.setIfInBounds_toArray, List.set_cons_succ, List.set_cons_zero]
            clear hK K
            show wpAny _ _ _ _ 1 #[true, true, true, true, true, true, true, true, true, false] _ _
            refine wpAny_ready (rs := [9]) (by kernel_rfl) (by simp) ?_
            refine AllReady.cons rfl (fun K hK => ?_) (AllReady.nil)
            refine arm_store32 rfl 88 (.tmp 5) (.tmp 34) rfl (kb + 1) rfl (takeH hs (sched pc)) rfl agg26 (len_takeH _ _ hl8) (Blk.below C5 hV14 C5.lt) (by rw [size_arr32, hl8]) ?_
            intro W15 hb15 hg15 hs15
            refine hK _ _ ?_
            have hF := fin _ _ hb15 hg15 hV14
            simp only [List.getElem_toArray, List.getElem_cons_zero, List.getElem_cons_succ, Act.put, List.setIfInBounds_toArray, List.set_cons_succ, List.set_cons_zero]
            clear hK K
            show wpAny _ _ _ _ 0 _ _ _
            exact ⟨by kernel_rfl, rfl, hF⟩
          · skip
            refine arm_load_blk rfl 95 (.tmp 4) rfl kb rfl _ agg24 (by rw [size_arr32, len_K64]) (Blk.below C4 (by assumption) C4.lt) (hK _ _ ?_)
            simp only [List.getElem_toArray, List.getElem_cons_zero, List.getElem_cons_succ, Act.put, List.setIfInBounds_toArray, List.set_cons_succ, List.set_cons_zero]
            clear hK K
            show wpAny _ _ _ _ 3 #[true, true, true, true, true, true, false, true, false, false] _ _
            refine wpAny_ready (rs := [6]) (by kernel_rfl) (by simp) ?_
            refine AllReady.cons rfl (fun K hK => ?_) (AllReady.nil)
            go_simp
            refine (refsched_c (SlB.below h5 hV0) hV0.size).mono ?_
            rintro e W17 ⟨rfl, hb17⟩
            have hV17 := hV0.trans (hb17.mono hV0.size)
            refine hK _ _ ?_
            simp only [List.getElem_toArray, List.getElem_cons_zero, List.getElem_cons_succ, Act.put, List.setIfInBounds_toArray, List.set_cons_succ, List.set_cons_zero]
            clear hK K
            show wpAny _ _ _ _ 2 #[true, true, true, true, true, true, true, true, false, false] _ _
            refine wpAny_ready (rs := [8]) (by kernel_rfl) (by simp) ?_
            refine AllReady.cons rfl (fun K hK => ?_) (AllReady.nil)
            go_simp
            refine (digestTake.reftakeK hs (sched pc) hl8 hl48 _).mono ?_
            rintro e W18 ⟨rfl, hb18⟩
            have hV18 := hV17.trans (hb18.mono hV17.size)
            refine hK _ _ ?_
            simp only [List.getElem_toArray, List.getElem_cons_zero, List.getElem_cons_succ, Act.put, List.setIfInBounds_toArray, List.set_cons_succ, List.set_cons_zero]
            clear hK K
            show wpAny _ _ _ _ 1 #[true, true, true, true, true, true, true, true, true, false] _ _
            refine wpAny_ready (rs := [9]) (by kernel_rfl) (by simp) ?_
            refine AllReady.cons rfl (fun K hK => ?_) (AllReady.nil)
            refine arm_store32 rfl 88 (.tmp 5) (.tmp 34) rfl (kb + 1) rfl (takeH hs (sched pc)) rfl agg26 (len_takeH _ _ hl8) (Blk.below C5 hV18 C5.lt) (by rw [size_arr32, hl8]) ?_
            intro W19 hb19 hg19 hs19
            refine hK _ _ ?_
            have hF := fin _ _ hb19 hg19 hV18
            simp only [List.getElem_toArray, List.getElem_cons_zero, List.getElem_cons_succ, Act.put, List.setIfInBounds_toArray, List.set_cons_succ, List.set_cons_zero]
            clear hK K
            show wpAny _ _ _ _ 0 _ _ _
            exact ⟨by kernel_rfl, rfl, hF⟩
        · skip
          go_simp
          refine (refsched_c (SlB.below h5 hV0) hV0.size).mono ?_
          rintro e W20 ⟨rfl, hb20⟩
          have hV20 := hV0.trans (hb20.mono hV0.size)
          refine hK _ _ ?_
          simp only [List.getElem_toArray, List.getElem_cons_zero, List.getElem_cons_succ, Act.put, List.setIfInBounds_toArray, List.set_cons_succ, List.set_cons_zero]
          clear hK K
          show wpAny _ _ _ _ 4 #[false, true, true, true, true, true, true, false, false, false] _ _
          refine wpAny_ready (rs := [0, 7]) (by kernel_rfl) (by simp) ?_
          refine AllReady.cons rfl (fun K hK => ?_) (AllReady.cons rfl (fun K hK => ?_) (AllReady.nil))
          · skip
            refine arm_load_blk rfl 88 (.tmp 5) rfl (kb + 1) rfl _ agg26 (by rw [size_arr32, hl8]) (Blk.below C5 (by assumption) C5.lt) (hK _ _ ?_)
            simp only [List.getElem_toArray, List.getElem_cons_zero, List.getElem_cons_succ, Act.put, List.setIfInBounds_toArray, List.set_cons_succ, List.set_cons_zero]
            clear hK K
            show wpAny _ _ _ _ 3 #[true, true, true, true, true, true, true, false, false, false] _ _
            refine wpAny_ready (rs := [7]) (by kernel_rfl) (by simp) ?_
            refine AllReady.cons rfl (fun K hK => ?_) (AllReady.nil)
            refine arm_load_blk rfl 95 (.tmp 4) rfl kb rfl _ agg24 (by rw [size_arr32, len_K64]) (Blk.below C4 (by assumption) C4.lt) (hK _ _ ?_)
            simp only [List.getElem_toArray, List.getElem_cons_zero, List.getElem_cons_succ, Act.put, List.setIfInBounds_toArray, List.set_cons_succ, List.set_cons_zero]
            clear hK K
            show wpAny _ _ _ _ 2 #[true, true, true, true, true, true, true, true, false, false] _ _
            refine wpAny_ready (rs := [8]) (by kernel_rfl) (by simp) ?_
            refine AllReady.cons rfl (fun K hK => ?_) (AllReady.nil)
            go_simp
            refine (digestTake.reftakeK hs (sched pc) hl8 hl48 _).mono ?_
            rintro e W23 ⟨rfl, hb23⟩
            have hV23 := hV20.trans (hb23.mono hV20.size)
            refine hK _ _ ?_
            simp only [List.getElem_toArray, List.getElem_cons_zero, List.getElem_cons_succ, Act.put, List.setIfInBounds_toArray, List.set_cons_succ, List.set_cons_zero]
            clear hK K
            show wpAny _ _ _ _ 1 #[true, true, true, true, true, true, true, true, true, false] _ _
            refine wpAny_ready (rs := [9]) (by kernel_rfl) (by simp) ?_
            refine AllReady.cons rfl (fun K hK => ?_) (AllReady.nil)
            refine arm_store32 rfl 88 (.tmp 5) (.tmp 34) rfl (kb + 1) rfl (takeH hs (sched pc)) rfl agg26 (len_takeH _ _ hl8) (Blk.below C5 hV23 C5.lt) (by rw [size_arr32, hl8]) ?_
            intro W24 hb24 hg24 hs24
            refine hK _ _ ?_
            have hF := fin _ _ hb24 hg24 hV23
            simp only [List.getElem_toArray, List.getElem_cons_zero, List.getElem_cons_succ, Act.put, List.setIfInBounds_toArray, List.set_cons_succ, List.set_cons_zero]
            clear hK K
            show wpAny _ _ _ _ 0 _ _ _
            exact ⟨by kernel_rfl, rfl, hF⟩
          · skip
            refine arm_load_blk rfl 95 (.tmp 4) rfl kb rfl _ agg24 (by rw [size_arr32, len_K64]) (Blk.below C4 (by assumption) C4.lt) (hK _ _ ?_)
            simp only [List.getElem_toArray, List.getElem_cons_zero, List.getElem_cons_succ, Act.put, List.setIfInBounds_toArray, List.set_cons_succ, List.set_cons_zero]
            clear hK K
            show wpAny _ _ _ _ 3 #[false, true, true, true, true, true, true, true, false, false] _ _
            refine wpAny_ready (rs := [0]) (by kernel_rfl) (by simp) ?_
            refine AllReady.cons rfl (fun K hK => ?_) (AllReady.nil)
            refine arm_load_blk rfl 88 (.tmp 5) rfl (kb + 1) rfl _ agg26 (by rw [size_arr32, hl8]) (Blk.below C5 (by assumption) C5.lt) (hK _ _ ?_)
            simp only [List.getElem_toArray, List.getElem_cons_zero, List.getElem_cons_succ, Act.put, List.setIfInBounds_toArray, List.set_cons_succ, List.set_cons_zero]
            clear hK K
            show wpAny _ _ _ _ 2 #[true, true, true, true, true, true, true, true, false, false] _ _
            refine wpAny_ready (rs := [8]) (by kernel_rfl) (by simp) ?_
            refine AllReady.cons rfl (fun K hK => ?_) (AllReady.nil)
            go_simp
            refine (digestTake.reftakeK hs (sched pc) hl8 hl48 _).mono ?_
            rintro e W27 ⟨rfl, hb27⟩
            have hV27 := hV20.trans (hb27.mono hV20.size)
            refine hK _ _ ?_
            simp only [List.getElem_toArray, List.getElem_cons_zero, List.getElem_cons_succ, Act.put, List.setIfInBounds_toArray, List.set_cons_succ, List.set_cons_zero]
            clear hK K
            show wpAny _ _ _ _ 1 #[true, true, true, true, true, true, true, true, true, false] _ _
            refine wpAny_ready (rs := [9]) (by kernel_rfl) (by simp) ?_
            refine AllReady.cons rfl (fun K hK => ?_) (AllReady.nil)
            refine arm_store32 rfl 88 (.tmp 5) (.tmp 34) rfl (kb + 1) rfl (takeH hs (sched pc)) rfl agg26 (len_takeH _ _ hl8) (Blk.below C5 hV27 C5.lt) (by rw [size_arr32, hl8]) ?_
            intro W28 hb28 hg28 hs28
            refine hK _ _ ?_
            have hF := fin _ _ hb28 hg28 hV27
            simp only [List.getElem_toArray, List.getElem_cons_zero, List.getElem_cons_succ, Act.put, List.setIfInBounds_toArray, List.set_cons_succ, List.set_cons_zero]
            clear hK K
            show wpAny _ _ _ _ 0 _ _ _
            exact ⟨by kernel_rfl, rfl, hF⟩
        · skip
          refine arm_load_blk rfl 95 (.tmp 4) rfl kb rfl _ agg24 (by rw [size_arr32, len_K64]) (Blk.below C4 (by assumption) C4.lt) (hK _ _ ?_)
          simp only [List.getElem_toArray, List.getElem_cons_zero, List.getElem_cons_succ, Act.put, List.setIfInBounds_toArray, List.set_cons_succ, List.set_cons_zero]
          clear hK K
          show wpAny _ _ _ _ 4 #[false, true, true, true, true, true, false, true, false, false] _ _
          refine wpAny_ready (rs := [0, 6]) (by kernel_rfl) (by simp) ?_
          refine AllReady.cons rfl (fun K hK => ?_) (AllReady.cons rfl (fun K hK => ?_) (AllReady.nil))
          · skip
            refine arm_load_blk rfl 88 (.tmp 5) rfl (kb + 1) rfl _ agg26 (by rw [size_arr32, hl8]) (Blk.below C5 (by assumption) C5.lt) (hK _ _ ?_)
            simp only [List.getElem_toArray, List.getElem_cons_zero, List.getElem_cons_succ, Act.put, List.setIfInBounds_toArray, List.set_cons_succ, List.set_cons_zero]
            clear hK K
            show wpAny _ _ _ _ 3 #[true, true, true, true, true, true, false, true, false, false] _ _
            refine wpAny_ready (rs := [6]) (by kernel_rfl) (by simp) ?_
            refine AllReady.cons rfl (fun K hK => ?_) (AllReady.nil)
            go_simp
            refine (refsched_c (SlB.below h5 hV0) hV0.size).mono ?_
            rintro e W31 ⟨rfl, hb31⟩
            have hV31 := hV0.trans (hb31.mono hV0.size)
            refine hK _ _ ?_
            simp only [List.getElem_toArray, List.getElem_cons_zero, List.getElem_cons_succ, Act.put, List.setIfInBounds_toArray, List.set_cons_succ, List.set_cons_zero]
            clear hK K
            show wpAny _ _ _ _ 2 #[true, true, true, true, true, true, true, true, false, false] _ _
            refine wpAny_ready (rs := [8]) (by kernel_rfl) (by simp) ?_
            refine AllReady.cons rfl (fun K hK => ?_) (AllReady.nil)
            go_simp
            refine (digestTake.reftakeK hs (sched pc) hl8 hl48 _).mono ?_
            rintro e W32 ⟨rfl, hb32⟩
            have hV32 := hV31.trans (hb32.mono hV31.size)
            refine hK _ _ ?_
            simp only [List.getElem_toArray, List.getElem_cons_zero, List.getElem_cons_succ, Act.put, List.setIfInBounds_toArray, List.set_cons_succ, List.set_cons_zero]
            clear hK K
            show wpAny _ _ _ _ 1 #[true, true, true, true, true, true, true, true, true, false] _ _
            refine wpAny_ready (rs := [9]) (by kernel_rfl) (by simp) ?_
            refine AllReady.cons rfl (fun K hK => ?_) (AllReady.nil)
            refine arm_store32 rfl 88 (.tmp 5) (.tmp 34) rfl (kb + 1) rfl (takeH hs (sched pc)) rfl agg26 (len_takeH _ _ hl8) (Blk.below C5 hV32 C5.lt) (by rw [size_arr32, hl8]) ?_
            intro W33 hb33 hg33 hs33
            refine hK _ _ ?_
            have hF := fin _ _ hb33 hg33 hV32
            simp only [List.getElem_toArray, List.getElem_cons_zero, List.getElem_cons_succ, Act.put, List.setIfInBounds_toArray, List.set_cons_succ, List.set_cons_zero]
            clear hK K
            show wpAny _ _ _ _ 0 _ _ _
            exact ⟨by kernel_rfl, rfl, hF⟩
          · skip
            go_simp
            refine (refsched_c (SlB.below h5 hV0) hV0.size).mono ?_
            rintro e W34 ⟨rfl, hb34⟩
            have hV34 := hV0.trans (hb34.mono hV0.size)
            refine hK _ _ ?_
            simp only [List.getElem_toArray, List.getElem_cons_zero, List.getElem_cons_succ, Act.put, List.setIfInBounds_toArray, List.set_cons_succ, List.set_cons_zero]
            clear hK K
            show wpAny _ _ _ _ 3 #[false, true, true, true, true, true, true, true, false, false] _ _
            refine wpAny_ready (rs := [0]) (by kernel_rfl) (by simp) ?_
            refine AllReady.cons rfl (fun K hK => ?_) (AllReady.nil)
            refine arm_load_blk rfl 88 (.tmp 5) rfl (kb + 1) rfl _ agg26 (by rw [size_arr32, hl8]) (Blk.below C5 (by assumption) C5.lt) (hK _ _ ?_)
            simp only [List.getElem_toArray, List.getElem_cons_zero, List.getElem_cons_succ, Act.put, List.setIfInBounds_toArray, List.set_cons_succ, List.set_cons_zero]
            clear hK K
            show wpAny _ _ _ _ 2 #[true, true, true, true, true, true, true, true, false, false] _ _
            refine wpAny_ready (rs := [8]) (by kernel_rfl) (by simp) ?_
            refine AllReady.cons rfl (fun K hK => ?_) (AllReady.nil)
            go_simp
            refine (digestTake.reftakeK hs (sched pc) hl8 hl48 _).mono ?_
            rintro e W36 ⟨rfl, hb36⟩
            have hV36 := hV34.trans (hb36.mono hV34.size)
            refine hK _ _ ?_
            simp only [List.getElem_toArray, List.getElem_cons_zero, List.getElem_cons_succ, Act.put, List.setIfInBounds_toArray, List.set_cons_succ, List.set_cons_zero]
            clear hK K
            show wpAny _ _ _ _ 1 #[true, true, true, true, true, true, true, true, true, false] _ _
            refine wpAny_ready (rs := [9]) (by kernel_rfl) (by simp) ?_
            refine AllReady.cons rfl (fun K hK => ?_) (AllReady.nil)
            refine arm_store32 rfl 88 (.tmp 5) (.tmp 34) rfl (kb + 1) rfl (takeH hs (sched pc)) rfl agg26 (len_takeH _ _ hl8) (Blk.below C5 hV36 C5.lt) (by rw [size_arr32, hl8]) ?_
            intro W37 hb37 hg37 hs37
            refine hK _ _ ?_
            have hF := fin _ _ hb37 hg37 hV36
            simp only [List.getElem_toArray, List.getElem_cons_zero, List.getElem_cons_succ, Act.put, List.setIfInBounds_toArray, List.set_cons_succ, List.set_cons_zero]
            clear hK K
            show wpAny _ _ _ _ 0 _ _ _
            exact ⟨by kernel_rfl, rfl, hF⟩
      rintro e a' w' h
      cases e with
      | normal =>
        obtain ⟨rfl, w6, hV6, hg6, hb6⟩ := h
        go_wp2_with fail
        have hVw : Below wr.heap.size wr w6 := (Below.refl _ _).drew.trans hV6
        have hzb := HBw.out.size
        have hzk := C4.lt
        have hzv : wr.heap.size ≤ w6.heap.size := hVw.size
        have hzd : wr.drew.heap.size = wr.heap.size := rfl
        refine ⟨⟨k + 1, i + 64, by omega, by rw [HI.out]; omega, hi64, by go_num, by rw [HNX.out]; exact hb6, (C4.below hV6 C4.lt).grown hg6 (by simp), ?_, (HC0.out.below hVw HC0.out.lt).grown hg6 (by simp; omega), ?_⟩, by simp [intOf]; omega⟩
        · exact Row.keep HC3.out (fun g e hg => (hg6.block g (Nat.lt_of_lt_of_le hg hVw.size) (by have := hA4 g e; simp; omega)).trans (hVw.block g hg))
        · exact (HBw.out.trans (hVw.mono hzb)).grown hg6 (Nat.le_trans hzb hzv) (fun k hk => by cases hk; omega)
      | _ => exact h.elim
    · obtain rfl : k = N := by omega
      have hie : i = L := by rw [hi, HLL.out]
      subst hie
      have hsh : sha bs = out8 (shaTo bs k) := by rw [sha, hl0.out, ← HN.out]
      have hl8 := len_shaTo bs k
      obtain ⟨hs, hhs⟩ : ∃ hs, hs = shaTo bs k := ⟨_, rfl⟩
      rw [← hhs] at hl8 C5 hsh
      have HSH := Lib.hid hsh
      have HL8 := Lib.hid hl8
      have hzb := hb.size
      have hz0 := C0.lt
      have d5 := C5.alloc (.cells (arr8 (z8' 32)) 28)
      have d0 := C0.alloc (.cells (arr8 (z8' 32)) 28)
      have d7 := Blk.new wr 28 (arr8 (z8' 32))
      have hbd : Below w.heap.size w (wr.alloc (.cells (arr8 (z8' 32)) 28)) := hb.alloc hzb _
      have hz5 := C5.lt
      obtain ⟨g7, hg7⟩ : ∃ g7, g7 = wr.heap.size := ⟨_, rfl⟩
      clear hhs hsh hl8 hi C3 C4 C5 C0 hb
      go_wp2_with (first
        | ((with_reducible show wpList _ _ _ (Oper.mk _ (Op.alloc 28) _ _ _ _ :: _) _ _); refine wpList_alloc_agg rfl 28 rfl (arr8 (z8' 32)) zero44 ?_; (try rw [World.size_alloc]); simp only [Act.put, List.setIfInBounds_toArray, List.set_cons_succ, List.set_cons_zero]))
      rw [← hg7] at d7 hz5 hz0 ⊢
      clear hg7
      have hgo : w.heap.size ≠ g7 := by omega
      have hgk : kb + 1 ≠ g7 := by omega
      go_loopw [8] (fun v8 wr => ∃ i : Nat, i ≤ 32 ∧ v8 = .int .i64 (i : Int) ∧ Blk wr g7 28 (arr8 ((out8 hs).take i ++ z8' (32 - i))) ∧ Blk wr (kb + 1) 88 (arr32 hs) ∧ Blk wr w.heap.size 28 (arr8 (z8' 32)) ∧ Below w.heap.size w wr) (fun v8 _ => 32 - (intOf v8).toNat)
      case atStart => exact ⟨0, by omega, rfl, d7, d5, d0, hbd⟩
      case round =>
        clear d7 d5 d0 hbd
        obtain ⟨i, hi, rfl, C7, C5, C0, hb⟩ := hrel
        by_cases hlt2 : i < 32
        · obtain ⟨q, hq⟩ : ∃ q, q = i / 4 := ⟨_, rfl⟩
          obtain ⟨r, hr⟩ : ∃ r, r = i % 4 := ⟨_, rfl⟩
          have hq8 : q < 8 := by omega
          have hr4 : r < 4 := by omega
          have hiq : i = 4 * q + r := by omega
          have htq : ((i : Int)).tdiv 4 = (q : Int) := by rw [Int.tdiv_eq_ediv_of_nonneg (by omega)]; omega
          have htr : ((i : Int)).tmod 4 = (r : Int) := by rw [Int.tmod_eq_emod_of_nonneg (by omega)]; omega
          have hdq : ((i : Int)) / 4 = (q : Int) := by omega
          have hdr : ((i : Int)) % 4 = (r : Int) := by omega
          have hK : q < hs.length := by rw [HL8.out]; exact hq8
          obtain ⟨x, hx⟩ : ∃ x, x = hs[q]?.getD 0 := ⟨_, rfl⟩
          have d3 : wr.cell? ⟨kb + 1, q, none⟩ = some (.int .u32 (x.toNat : Int)) := by rw [C5.cell, arr32_get, hx, List.getElem?_eq_getElem hK]; rfl
          have hqi : (q : Int) < 8 := by omega
          have hq0 : (0 : Int) ≤ (q : Int) := by omega
          have hri : (r : Int) < 4 := by omega
          have hr0 : (0 : Int) ≤ (r : Int) := by omega
          have hi1 : (i : Int) < 32 := by omega
          have hi0 : (0 : Int) ≤ (i : Int) := by omega
          have hs7 : (wr.cell? ⟨g7, i, none⟩).isSome = true := by rw [C7.cell]; exact arr8_some _ _ (by rw [List.length_append, len_z8', List.length_take, len_out8, HL8.out]; omega)
          obtain ⟨v0, hv0⟩ := Option.isSome_iff_exists.1 hs7
          have hf7 : wr.frozen? ⟨g7, i, none⟩ = false := C7.frozen i
          clear hs7
          have hbyte : (UInt8.ofNat (x.toNat / 2 ^ (24 - 8 * r))) = (out8 hs)[i]?.getD 0 := by rw [hx]; exact (out8_at hs q r i hK hr4 hiq).symm
          obtain ⟨y, hy⟩ : ∃ y, y = (shR x (24 - 8 * (r : Int)).toNat).toNat % 256 := ⟨_, rfl⟩
          have HHR := Lib.hid hr
          have HHQ := Lib.hid hq
          have HHX := Lib.hid hx
          have HIQ := Lib.hid hiq
          have HBY := Lib.hid hbyte
          have HC7 := Lib.hid C7
          have HC5 := Lib.hid C5
          have HC0 := Lib.hid C0
          have HBw := Lib.hid hb
          clear hr hq hx hbyte hiq C7 C5 C0 hb hK
          go_wp2_with (go_at_call 61; refine (refshr_c x (24 - 8 * (r : Int)) (by omega) (by omega) _).mono ?_; rintro e w' ⟨rfl, rfl⟩)
          clear hv0 hf7
          rw [shR_byte, HBY.out]
          refine ⟨⟨i + 1, by omega, by go_num, ?_, HC5.out.far (by simp; omega) _, HC0.out.far (by simp; omega) _, HBw.out.setCell (by simp; omega) _⟩, by simp [intOf]; omega⟩
          rw [← arr8_put (out8 hs) i 32 (by rw [len_out8, HL8.out]; omega) (by rw [len_out8, HL8.out]; omega) _ rfl]
          exact HC7.out.set_ i _
        · obtain rfl : i = 32 := by omega
          have hfull : (out8 hs).take 32 ++ z8' (32 - 32) = sha bs := by rw [List.take_of_length_le (by rw [len_out8, HL8.out]; omega), HSH.out]; simp [z8']
          rw [hfull] at C7
          have HBw := Lib.hid hb
          have hls := len_sha bs
          have hzb2 := hb.size
          clear hb hfull
          go_wp2_with (first
            | ((with_reducible show wpList _ _ _ (Oper.mk _ (Op.load 28 _) _ _ _ _ :: _) _ _); refine wpList_load_whole rfl 28 (.tmp 7) rfl g7 rfl (arr8 (sha bs)) agg44 (by rw [size_arr8, hls]) 28 C7 ?_)
            | ((with_reducible show wpList _ _ _ (Oper.mk none (Op.store 28 _ _) _ _ _ _ :: _) _ _); refine wpList_store8 rfl 28 (.tmp 2) (.tmp 52) rfl w.heap.size rfl (sha bs) rfl agg44 hls _ _ C0 (by rw [size_arr8, len_z8']) ?_; intro W8 hb8 hg8 hs8))
          refine bodyPost_ret (results_cell_one rfl _ w.heap.size _ (arr8 (sha bs)) agg44 (by rw [size_arr8, hls]) rfl hb8) rfl ⟨rfl, ?_⟩
          exact HBw.out.grown hg8 hzb2 (fun k hk => by cases hk; exact Nat.le_refl _)
end Go.Proofs.Ytdifepfplfkfoaa
