/-
  The reference's Constants and Begin: reckoned from the primes.
-/
import Derived.Test.YtbphoilfiahnpaaRefPrimes
import Derived.Test.YtbphoilfiahnpaaRootC
namespace Go.Proofs.Ytbphoilfiahnpaa
open Go.RowKit
set_option linter.unusedVariables false
set_option linter.unusedSimpArgs false
set_option maxRecDepth 100000

theorem root_at {P : List Nat} {K : List UInt32} {f : Nat → Nat} (h : P.map f = K.map (·.toNat)) {i p : Nat} (hp : P[i]? = some p) : ∃ x, K[i]? = some x ∧ f p = x.toNat := by
  have e := congrArg (fun l => l[i]?) h
  simp only [List.getElem?_map, hp, Option.map_some] at e
  cases hk : K[i]? with
  | none => rw [hk] at e; cases e
  | some x => rw [hk] at e; exact ⟨x, rfl, Option.some.inj e⟩

set_option maxHeartbeats 2000000 in
theorem refconstants_c (w : World) :
    Calls Try.prog 22 #[] w fun e w' => e = .returned (.agg (arr32 K64)) ∧ Below w.heap.size w w' := by
  have b0 := Blk.new w 24 (arr32 (z32 64))
  have b1 := Blk.new (w.alloc (.cells (arr32 (z32 64)) 24)) 24 (arr32 (z32 64))
  simp only [World.size_alloc] at b1
  have b0' := b0.alloc (.cells (arr32 (z32 64)) 24)
  have hb0 : Below w.heap.size w ((w.alloc (.cells (arr32 (z32 64)) 24)).alloc (.cells (arr32 (z32 64)) 24)) := ((Below.refl _ _).alloc (Nat.le_refl _) _).alloc (by simp) _
  go_enter Try.func22, Try.ntmps22
  go_wp2_with (first
    | ((with_reducible show wpList _ _ _ (Oper.mk _ (Op.alloc 24) _ _ _ _ :: _) _ _); refine wpList_alloc_agg rfl 24 rfl (arr32 (z32 64)) zero24 ?_; (try rw [World.size_alloc]))
    | (go_at_call 51; refine (primes_c 64 310 P64 primes64 rfl (by omega) (by omega)).mono ?_; rintro e v2 ⟨A, c, rfl, ho, hb2⟩))
  have B0 : Blk v2 w.heap.size 24 (arr32 (z32 64)) := Blk.below b0' hb2 b0'.lt
  have B1 : Blk v2 (w.heap.size + 1) 24 (arr32 (z32 64)) := Blk.below b1 hb2 b1.lt
  have hb02 := hb0.trans (hb2.mono hb0.size)
  have ho2 : O64 v2 (w.heap.size + 2) A 64 c P64 := by simpa using ho
  clear b0 b1 b0' hb0 hb2 ho
  obtain ⟨ba, _, rfl, hba, _⟩ := ho2.2.2.2 (by have := ho2.2.1; omega)
  go_loopw [3] (fun v3 wr => ∃ (i : Nat), i ≤ 64 ∧ v3 = .int .i64 (i : Int) ∧ Blk wr w.heap.size 24 (arr32 (z32 64)) ∧ Blk wr (w.heap.size + 1) 24 (arr32 (K64.take i ++ z32 (64 - i))) ∧ O64 wr (w.heap.size + 2) (some ⟨ba, 0, none⟩) 64 c P64 ∧ Below w.heap.size w wr) (fun v3 _ => 64 - (intOf v3).toNat)
  case atStart => exact ⟨0, by omega, rfl, B0, by simpa using B1, ho2, hb02⟩
  case round =>
    clear B0 B1 hb02 ho2
    obtain ⟨i, hi, rfl, B0, B1, hs, hb⟩ := hrel
    have hz := hb.size
    by_cases hlt : i < 64
    · have hli : (i : Int) < 64 := by omega
      obtain ⟨p, hp⟩ : ∃ p, P64[i]? = some p := ⟨_, List.getElem?_eq_getElem hlt⟩
      obtain ⟨x, hx, hxe⟩ := root_at roots64 hp
      replace hxe : rootL p 3 % 4294967296 = x.toNat := hxe
      have hpb := small64 p (List.mem_of_getElem? hp)
      have dl := hs.s.at i hlt
      rw [hp, Nat.zero_add] at dl
      have HS := Lib.hid hs
      have HB := Lib.hid hb
      have H0 := Lib.hid B0
      have H1 := Lib.hid B1
      have HX := Lib.hid hx
      clear hs hb B0 B1 hx hp
      go_wp2_with (go_at_call 52; refine (root3_c p hpb).mono ?_; rintro e v3 ⟨rfl, hb3⟩; rw [hxe]; have hb03 := HB.out.trans (hb3.mono hz); have B03 := H0.out.below hb3 H0.out.lt; have B13 := H1.out.below hb3 H1.out.lt; have f13 := B13.frozen i; have hs3 := HS.out.below hb3; have d13 : v3.cell? ⟨w.heap.size + 1, i, none⟩ = some (.int .u32 0) := (by rw [B13.cell, arr32_get, List.getElem?_append_right (by rw [List.length_take, len_K64]; omega), List.length_take, len_K64, Nat.min_eq_left hi, Nat.sub_self, z32, List.getElem?_replicate, if_pos (by omega)]; rfl))
      refine ⟨⟨i + 1, by omega, by go_num, B03.far (by show w.heap.size ≠ w.heap.size + 1; omega) _, ?_, Row.keep hs3 (fun g e hg => by cases e; exact Below.heap_setCell _ _ _ _ (by show ba ≠ w.heap.size + 1; omega)), hb03.setCell (by show w.heap.size ≤ w.heap.size + 1; omega) _⟩, by simp [intOf]; omega⟩
      have h := B13.set_ i (.int .u32 (x.toNat : Int))
      rw [arr32_next _ 64 i (by rw [List.length_take, len_K64, Nat.min_eq_left hi]) hlt x] at h
      rw [List.take_add_one, HX.out]
      exact h
    · obtain rfl : i = 64 := by omega
      have hli : ¬ ((64 : Nat) : Int) < 64 := by omega
      have e64 : arr32 (List.take 64 K64 ++ z32 (64 - 64)) = arr32 K64 := by rw [List.take_of_length_le (Nat.le_of_eq len_K64)]; simp [z32]
      rw [e64] at B1
      have HB := Lib.hid hb
      clear hb hs e64
      go_wp2_with (first
        | ((with_reducible show wpList _ _ _ (Oper.mk _ (Op.load 24 _) _ _ _ _ :: _) _ _); refine wpList_load_whole rfl 24 (.tmp 1) rfl (w.heap.size + 1) rfl (arr32 K64) agg24 (by rw [size_arr32, len_K64]) 24 B1 ?_)
        | ((with_reducible show wpList _ _ _ (Oper.mk none (Op.store 24 _ _) _ _ _ _ :: _) _ _); refine wpList_store32 rfl 24 (.tmp 0) (.tmp 16) rfl w.heap.size rfl K64 rfl agg24 len_K64 _ _ B0 (by rw [size_arr32, len_z32]) ?_; intro w5 hb5 hg5 hs5))
      refine bodyPost_ret (results_cell_one rfl _ w.heap.size _ (arr32 K64) agg24 (by rw [size_arr32, len_K64]) rfl hb5) rfl ⟨rfl, ?_⟩
      exact HB.out.grown hg5 hz (fun k hk => by cases hk; exact Nat.le_refl _)

set_option maxHeartbeats 2000000 in
theorem refbegin_c (w : World) :
    Calls Try.prog 24 #[] w fun e w' => e = .returned (.agg (arr32 H8)) ∧ Below w.heap.size w w' := by
  have b0 := Blk.new w 26 (arr32 (z32 8))
  have b1 := Blk.new (w.alloc (.cells (arr32 (z32 8)) 26)) 26 (arr32 (z32 8))
  simp only [World.size_alloc] at b1
  have b0' := b0.alloc (.cells (arr32 (z32 8)) 26)
  have hb0 : Below w.heap.size w ((w.alloc (.cells (arr32 (z32 8)) 26)).alloc (.cells (arr32 (z32 8)) 26)) := ((Below.refl _ _).alloc (Nat.le_refl _) _).alloc (by simp) _
  go_enter Try.func24, Try.ntmps24
  go_wp2_with (first
    | ((with_reducible show wpList _ _ _ (Oper.mk _ (Op.alloc 26) _ _ _ _ :: _) _ _); refine wpList_alloc_agg rfl 26 rfl (arr32 (z32 8)) zero26 ?_; (try rw [World.size_alloc]))
    | (go_at_call 51; refine (primes_c 8 18 P8 primes8 rfl (by omega) (by omega)).mono ?_; rintro e v2 ⟨A, c, rfl, ho, hb2⟩))
  have B0 : Blk v2 w.heap.size 26 (arr32 (z32 8)) := Blk.below b0' hb2 b0'.lt
  have B1 : Blk v2 (w.heap.size + 1) 26 (arr32 (z32 8)) := Blk.below b1 hb2 b1.lt
  have hb02 := hb0.trans (hb2.mono hb0.size)
  have ho2 : O64 v2 (w.heap.size + 2) A 8 c P8 := by simpa using ho
  clear b0 b1 b0' hb0 hb2 ho
  obtain ⟨ba, _, rfl, hba, _⟩ := ho2.2.2.2 (by have := ho2.2.1; omega)
  go_loopw [3] (fun v3 wr => ∃ (i : Nat), i ≤ 8 ∧ v3 = .int .i64 (i : Int) ∧ Blk wr w.heap.size 26 (arr32 (z32 8)) ∧ Blk wr (w.heap.size + 1) 26 (arr32 (H8.take i ++ z32 (8 - i))) ∧ O64 wr (w.heap.size + 2) (some ⟨ba, 0, none⟩) 8 c P8 ∧ Below w.heap.size w wr) (fun v3 _ => 8 - (intOf v3).toNat)
  case atStart => exact ⟨0, by omega, rfl, B0, by simpa using B1, ho2, hb02⟩
  case round =>
    clear B0 B1 hb02 ho2
    obtain ⟨i, hi, rfl, B0, B1, hs, hb⟩ := hrel
    have hz := hb.size
    by_cases hlt : i < 8
    · have hli : (i : Int) < 8 := by omega
      obtain ⟨p, hp⟩ : ∃ p, P8[i]? = some p := ⟨_, List.getElem?_eq_getElem hlt⟩
      obtain ⟨x, hx, hxe⟩ := root_at roots8 hp
      replace hxe : rootL p 2 % 4294967296 = x.toNat := hxe
      have hpb := small8 p (List.mem_of_getElem? hp)
      have dl := hs.s.at i hlt
      rw [hp, Nat.zero_add] at dl
      have HS := Lib.hid hs
      have HB := Lib.hid hb
      have H0 := Lib.hid B0
      have H1 := Lib.hid B1
      have HX := Lib.hid hx
      clear hs hb B0 B1 hx hp
      go_wp2_with (go_at_call 52; refine (root2_c p hpb).mono ?_; rintro e v3 ⟨rfl, hb3⟩; rw [hxe]; have hb03 := HB.out.trans (hb3.mono hz); have B03 := H0.out.below hb3 H0.out.lt; have B13 := H1.out.below hb3 H1.out.lt; have f13 := B13.frozen i; have hs3 := HS.out.below hb3; have d13 : v3.cell? ⟨w.heap.size + 1, i, none⟩ = some (.int .u32 0) := (by rw [B13.cell, arr32_get, List.getElem?_append_right (by rw [List.length_take, len_H8]; omega), List.length_take, len_H8, Nat.min_eq_left hi, Nat.sub_self, z32, List.getElem?_replicate, if_pos (by omega)]; rfl))
      refine ⟨⟨i + 1, by omega, by go_num, B03.far (by show w.heap.size ≠ w.heap.size + 1; omega) _, ?_, Row.keep hs3 (fun g e hg => by cases e; exact Below.heap_setCell _ _ _ _ (by show ba ≠ w.heap.size + 1; omega)), hb03.setCell (by show w.heap.size ≤ w.heap.size + 1; omega) _⟩, by simp [intOf]; omega⟩
      have h := B13.set_ i (.int .u32 (x.toNat : Int))
      rw [arr32_next _ 8 i (by rw [List.length_take, len_H8, Nat.min_eq_left hi]) hlt x] at h
      rw [List.take_add_one, HX.out]
      exact h
    · obtain rfl : i = 8 := by omega
      have hli : ¬ ((8 : Nat) : Int) < 8 := by omega
      have e8 : arr32 (List.take 8 H8 ++ z32 (8 - 8)) = arr32 H8 := by rw [List.take_of_length_le (Nat.le_of_eq len_H8)]; simp [z32]
      rw [e8] at B1
      have HB := Lib.hid hb
      clear hb hs e8
      go_wp2_with (first
        | ((with_reducible show wpList _ _ _ (Oper.mk _ (Op.load 26 _) _ _ _ _ :: _) _ _); refine wpList_load_whole rfl 26 (.tmp 1) rfl (w.heap.size + 1) rfl (arr32 H8) agg26 (by rw [size_arr32, len_H8]) 26 B1 ?_)
        | ((with_reducible show wpList _ _ _ (Oper.mk none (Op.store 26 _ _) _ _ _ _ :: _) _ _); refine wpList_store32 rfl 26 (.tmp 0) (.tmp 16) rfl w.heap.size rfl H8 rfl agg26 len_H8 _ _ B0 (by rw [size_arr32, len_z32]) ?_; intro w5 hb5 hg5 hs5))
      refine bodyPost_ret (results_cell_one rfl _ w.heap.size _ (arr32 H8) agg26 (by rw [size_arr32, len_H8]) rfl hb5) rfl ⟨rfl, ?_⟩
      exact HB.out.grown hg5 hz (fun k hk => by cases hk; exact Nat.le_refl _)
end Go.Proofs.Ytbphoilfiahnpaa
