/-
  Several texts of plain lemmas and contracts, one behind the other: Key, Masked, Tag.
-/
import Derived.Test.YtdifepfplfkfoaaOf
import Derived.Test.YtdifepfplfkfoaaDigA
import Derived.Test.YtdifepfplfkfoaaRefOf

/-
  mac.Piece: a key's piece.
-/
section
namespace Go.Proofs.Ytdifepfplfkfoaa
open Go.RowKit
open digestSchedule (piece8 len_piece8 splice_piece info8)
set_option linter.unusedVariables false
set_option maxRecDepth 100000

/-- What of a key counts. -/
def keyOf (bs : List UInt8) : List UInt8 := if bs.length ≤ 64 then bs else sha bs
def keyPiece (bs : List UInt8) : List UInt8 := piece8 (keyOf bs)
theorem len_keyPiece (bs : List UInt8) : (keyPiece bs).length = 64 := len_piece8 _
theorem keyOf_le (bs : List UInt8) : (keyOf bs).length ≤ 64 := by
  unfold keyOf
  split
  · assumption
  · rw [len_sha]; omega

/-- A digest's cells, as a slice. -/
theorem sum_sl {w : World} {g : Nat} {t : TypeId} {bs : List UInt8} (hb : Blk w g t (arr8 bs)) (hl : bs.length = 32) : SlB w w.heap.size (some ⟨g, 0, none⟩) 32 32 bs := by
  have := SlB.ofBlk hb (lo := 0) (hi := 32) (c := 32) (B := w.heap.size) (by omega) (by omega) (by omega) (by simp [maxLen]) hb.lt
  rwa [List.drop_zero, List.take_of_length_le (by omega)] at this

set_option maxHeartbeats 1000000 in
theorem key_c {w : World} {B : Nat} {A : Option Addr} {n c : Nat} {bs : List UInt8} (ha : SlB w B A n c bs) (hB : B ≤ w.heap.size) (hn : n ≤ 1099511627776) :
    Calls Try.prog 46 #[.slice A n c] w fun e w' => e = .returned (.agg (arr8 (keyPiece bs))) ∧ Below w.heap.size w w' := by
  have hl := Lib.hid ha.len
  have b2 := (Blk.new w 81 (arr8 (z8' 64))).alloc (.cells (arr8 (z8' 64)) 81)
  have b3 := Blk.new (w.alloc (.cells (arr8 (z8' 64)) 81)) 81 (arr8 (z8' 64))
  rw [World.size_alloc] at b3
  have hb0 : Below w.heap.size w ((w.alloc (.cells (arr8 (z8' 64)) 81)).alloc (.cells (arr8 (z8' 64)) 81)) := ((Below.refl _ _).alloc (Nat.le_refl _) _).alloc (by simp) _
  have hz0 := hb0.size
  obtain ⟨v, hv⟩ : ∃ v, v = (w.alloc (.cells (arr8 (z8' 64)) 81)).alloc (.cells (arr8 (z8' 64)) 81) := ⟨_, rfl⟩
  rw [← hv] at b2 b3 hb0 hz0
  have HV := Lib.hid hv
  clear hv
  have h64 := arr_all_run (P := Try.prog) (T := 81) Try.underlying81 size1 (by omega) (w.heap.size + 1)
  have HA := Lib.hid (ha.below (hb0.mono hB))
  by_cases hbig : n ≤ 64
  · have hni : ¬ (64 : Int) < (n : Int) := by omega
    have hni2 : (n : Int) ≤ 64 := by omega
    have hdec : decide ((64 : Int) < (n : Int)) = false := decide_eq_false hni
    have hk : keyOf bs = bs := by rw [keyOf, hl.out, if_pos hbig]
    have HK := Lib.hid hk
    clear hk
    go_enter Try.func46, Try.ntmps46
    go_wp2_with (first
      | ((with_reducible show wpList _ _ _ (Oper.mk _ (Op.alloc 81) _ _ _ _ :: _) _ _); refine wpList_alloc_agg rfl 81 rfl (arr8 (z8' 64)) zeroP34 ?_; (try rw [World.size_alloc]); (try rw [← HV.out]))
      | ((with_reducible show wpList _ _ _ (Oper.mk (some 14) (Op.call _) _ _ _ _ :: _) _ _); refine wpList_copy_blk rfl (.tmp 12) (.tmp 13) 22 rfl Try.underlying22 info8 rfl b3 rfl HA.out (by rw [size_arr8, len_z8']; exact Nat.le_trans (by simp; exact Nat.min_le_right _ _) (Nat.le_refl 64)) (b8_one _) ?_; intro v2 hb2 hg2 hs2; have e2 := splice_piece hl.out)
      | ((with_reducible show wpList _ _ _ (Oper.mk _ (Op.load 81 _) _ _ _ _ :: _) _ _); refine wpList_load_whole rfl 81 (.tmp 3) rfl (w.heap.size + 1) rfl (arr8 (piece8 bs)) aggP64 (by rw [size_arr8, len_piece8]) 81 (by rw [← e2]; exact hb2) ?_)
      | ((with_reducible show wpList _ _ _ (Oper.mk none (Op.store 81 _ _) _ _ _ _ :: _) _ _); refine wpList_store8 rfl 81 (.tmp 2) (.tmp 15) rfl w.heap.size rfl (piece8 bs) rfl aggP64 (len_piece8 _) _ _ (b2.grown hg2 (by simp)) (by rw [size_arr8, len_z8']) ?_; intro v3 hb3 hg3 hs3))
    refine bodyPost_ret (results_cell_one rfl _ w.heap.size _ (arr8 (piece8 bs)) aggP64 (by rw [size_arr8, len_piece8]) rfl hb3) rfl ⟨by rw [keyPiece, HK.out], ?_⟩
    exact (hb0.grown hg2 hz0 (fun k hk => by cases hk; omega)).grown hg3 (by rw [hs2]; exact hz0) (fun k hk => by cases hk; exact Nat.le_refl _)
  · have hni : (64 : Int) < (n : Int) := by omega
    have hdec : decide ((64 : Int) < (n : Int)) = true := decide_eq_true hni
    have hk : keyOf bs = sha bs := by rw [keyOf, hl.out, if_neg hbig]
    have HK := Lib.hid hk
    have hl32 := len_sha bs
    clear hk
    go_enter Try.func46, Try.ntmps46
    go_wp2_with (first
      | ((with_reducible show wpList _ _ _ (Oper.mk _ (Op.alloc 81) _ _ _ _ :: _) _ _); refine wpList_alloc_agg rfl 81 rfl (arr8 (z8' 64)) zeroP34 ?_; (try rw [World.size_alloc]); (try rw [← HV.out]))
      | (go_at_call 36; refine (of_one HA.out (Nat.le_trans hB hz0) hn).mono ?_; rintro e v1 ⟨rfl, hb1⟩; have b4 := Blk.new v1 28 (arr8 (z8' 32)); have h32 := arr_all_run (P := Try.prog) (T := 28) Try.underlying28 size1 (by omega) v1.heap.size)
      | ((with_reducible show wpList _ _ _ (Oper.mk _ (Op.alloc 28) _ _ _ _ :: _) _ _); refine wpList_alloc_agg rfl 28 rfl (arr8 (z8' 32)) zero44 ?_; (try rw [World.size_alloc]))
      | ((with_reducible show wpList _ _ _ (Oper.mk none (Op.store 28 _ _) _ _ _ _ :: _) _ _); refine wpList_store8 rfl 28 (.tmp 4) (.tmp 10) rfl v1.heap.size rfl (sha bs) rfl agg44 hl32 _ _ b4 (by rw [size_arr8, len_z8']) ?_; intro v4 hb4 hg4 hs4; have hv4 : Below v.heap.size v v4 := (hb1.alloc hb1.size _).grown hg4 (Nat.le_trans hb1.size (by simp)) (fun k hk => by cases hk; exact hb1.size))
      | ((with_reducible show wpList _ _ _ (Oper.mk (some 14) (Op.call _) _ _ _ _ :: _) _ _); refine wpList_copy_blk rfl (.tmp 12) (.tmp 13) 22 rfl Try.underlying22 info8 rfl (b3.below hv4 b3.lt) rfl (sum_sl hb4 hl32) (by rw [size_arr8, len_z8']; first | decide | omega | (simp; done)) (b8_one _) ?_; intro v2 hb2 hg2 hs2; have e2 := splice_piece hl32)
      | ((with_reducible show wpList _ _ _ (Oper.mk _ (Op.load 81 _) _ _ _ _ :: _) _ _); refine wpList_load_whole rfl 81 (.tmp 3) rfl (w.heap.size + 1) rfl (arr8 (piece8 (sha bs))) aggP64 (by rw [size_arr8, len_piece8]) 81 (by rw [← e2]; exact hb2) ?_)
      | ((with_reducible show wpList _ _ _ (Oper.mk none (Op.store 81 _ _) _ _ _ _ :: _) _ _); refine wpList_store8 rfl 81 (.tmp 2) (.tmp 15) rfl w.heap.size rfl (piece8 (sha bs)) rfl aggP64 (len_piece8 _) _ _ ((b2.below hv4 b2.lt).grown hg2 (by simp)) (by rw [size_arr8, len_z8']) ?_; intro v3 hb3 hg3 hs3))
    refine bodyPost_ret (results_cell_one rfl _ w.heap.size _ (arr8 (piece8 (sha bs))) aggP64 (by rw [size_arr8, len_piece8]) rfl hb3) rfl ⟨by rw [keyPiece, HK.out], ?_⟩
    have h04 := hb0.trans (hv4.mono hz0)
    exact (h04.grown hg2 h04.size (fun k hk => by cases hk; omega)).grown hg3 (by rw [hs2]; exact h04.size) (fun k hk => by cases hk; exact Nat.le_refl _)
end Go.Proofs.Ytdifepfplfkfoaa
end

/-
  mac.masked: a piece, each byte exclusive or one byte.
-/
section
namespace Go.Proofs.Ytdifepfplfkfoaa
open Go.RowKit
set_option linter.unusedVariables false
set_option maxRecDepth 100000

theorem xor_u8 (x y : UInt8) : bits .xor .u8 (x.toNat : Int) (y.toNat : Int) = ((x ^^^ y).toNat : Int) := by
  have := u8_xor_nat x.toNat y.toNat (UInt8.toNat_lt x) (UInt8.toNat_lt y)
  rw [this, UInt8.toNat_xor]

/-- The bytes, masked. -/
def mask (y : UInt8) (ps : List UInt8) : List UInt8 := ps.map (· ^^^ y)
theorem len_mask (y : UInt8) (ps : List UInt8) : (mask y ps).length = ps.length := by simp [mask]

theorem mask_next (y : UInt8) (ps : List UInt8) (i : Nat) (hi : i < ps.length) : (arr8 ((mask y ps).take i ++ ps.drop i)).setIfInBounds i (.int .u8 ((ps[i] ^^^ y).toNat : Int)) = arr8 ((mask y ps).take (i + 1) ++ ps.drop (i + 1)) := by
  have hb : (.int .u8 ((ps[i] ^^^ y).toNat : Int) : Value) = b8 (ps[i] ^^^ y) := rfl
  rw [arr8, arr8, hb, List.setIfInBounds_toArray, ← List.map_set]
  congr 2
  have hl : ((mask y ps).take i).length = i := by rw [List.length_take, len_mask]; omega
  rw [List.set_append_right _ _ (by omega), hl, Nat.sub_self, List.drop_eq_getElem_cons hi, List.set_cons_zero, List.take_succ_eq_append_getElem (by rw [len_mask]; exact hi), List.append_assoc]
  simp [mask]

set_option maxHeartbeats 1000000 in
theorem masked_c (ps : List UInt8) (hp : ps.length = 64) (y : UInt8) (w : World) :
    Calls Try.prog 47 #[.agg (arr8 ps), .int .u8 (y.toNat : Int)] w fun e w' => e = .returned (.slice (some ⟨w.heap.size, 0, none⟩) 64 64) ∧ SlB w' w'.heap.size (some ⟨w.heap.size, 0, none⟩) 64 64 (mask y ps) ∧ Below w.heap.size w w' := by
  have HP := Lib.hid hp
  have b1 := Blk.new w 81 (arr8 ps)
  have hb : Below w.heap.size w (w.alloc (.cells (arr8 ps) 81)) := (Below.refl _ _).alloc (Nat.le_refl _) _
  have h64 := arr_all_run (P := Try.prog) (T := 81) Try.underlying81 size1 (by omega) w.heap.size
  clear hp
  go_enter Try.func47, Try.ntmps47
  go_wp2_with fail
  go_loopw [6] (fun v6 wr => ∃ i : Nat, i ≤ 64 ∧ v6 = .int .i64 (i : Int) ∧ Blk wr w.heap.size 81 (arr8 ((mask y ps).take i ++ ps.drop i)) ∧ Below w.heap.size w wr) (fun v6 _ => 64 - (intOf v6).toNat)
  case atStart => exact ⟨0, by omega, rfl, b1, hb⟩
  case round =>
    clear b1 hb
    obtain ⟨i, hi, rfl, C1, hb⟩ := hrel
    by_cases hlt : i < 64
    · have hip : i < ps.length := by rw [HP.out]; exact hlt
      obtain ⟨x, hx⟩ : ∃ x, x = ps[i] := ⟨_, rfl⟩
      have hl : ((mask y ps).take i).length = i := by rw [List.length_take, len_mask, HP.out]; omega
      have d1 : wr.cell? ⟨w.heap.size, i, none⟩ = some (.int .u8 (x.toNat : Int)) := by
        rw [C1.cell, arr8_get, List.getElem?_append_right (by omega), hl, Nat.sub_self, List.getElem?_drop, Nat.add_zero, List.getElem?_eq_getElem hip, hx]; rfl
      have f1 : wr.frozen? ⟨w.heap.size, i, none⟩ = false := C1.frozen i
      have hn := mask_next y ps i hip
      rw [← hx] at hn
      have hi1 : (i : Int) < 64 := by omega
      have hi0 : (0 : Int) ≤ (i : Int) := by omega
      have HN := Lib.hid hn
      have HC := Lib.hid C1
      have HB := Lib.hid hb
      clear hn C1 hb hx hl hip
      go_wp2_with fail
      clear d1 f1
      rw [xor_u8]
      refine ⟨⟨i + 1, by omega, by go_num, by rw [← HN.out]; exact HC.out.set_ i _, HB.out.setCell (by simp) _⟩, by simp [intOf]; omega⟩
    · obtain rfl : i = 64 := by omega
      have hf : (mask y ps).take 64 ++ ps.drop 64 = mask y ps := by rw [List.take_of_length_le (by rw [len_mask, HP.out]; omega), List.drop_of_length_le (by rw [HP.out]; omega), List.append_nil]
      rw [hf] at C1
      have hs : SlB wr wr.heap.size (some ⟨w.heap.size, 0, none⟩) 64 64 (mask y ps) := by
        have := SlB.ofBlk C1 (lo := 0) (hi := 64) (c := 64) (B := wr.heap.size) (by omega) (by rw [len_mask, HP.out]; omega) (by omega) (by simp [maxLen]) C1.lt
        rwa [List.drop_zero, List.take_of_length_le (by rw [len_mask, HP.out]; omega)] at this
      have HS := Lib.hid hs
      have HB := Lib.hid hb
      clear hs hb C1
      go_wp2_with fail
      go_ret
      exact ⟨rfl, HS.out, HB.out⟩
end Go.Proofs.Ytdifepfplfkfoaa
end

/-
  mac.Tag: a text's tag with a key.
-/
section
namespace Go.Proofs.Ytdifepfplfkfoaa
open Go.RowKit
set_option linter.unusedVariables false
set_option linter.unusedSimpArgs false
set_option maxRecDepth 100000

def inPart (key : List UInt8) : List UInt8 := mask 0x36 (keyPiece key)
def outPart (key : List UInt8) : List UInt8 := mask 0x5c (keyPiece key)
def hmac (key text : List UInt8) : List UInt8 := sha (outPart key ++ sha (inPart key ++ text))
theorem len_hmac (key text : List UInt8) : (hmac key text).length = 32 := len_sha _
theorem len_inPart (key : List UInt8) : (inPart key).length = 64 := by rw [inPart, len_mask, len_keyPiece]
theorem len_outPart (key : List UInt8) : (outPart key).length = 64 := by rw [outPart, len_mask, len_keyPiece]

theorem slices_info : (Try.prog.info? 22).map (fun i => (i.zero, i.size, i.bytes)) = some (some (.slice none 0 0), 1, 24) := by kernel_rfl
theorem parts_one (ps : List Part) : ∀ u ∈ ps.map Part.v, u.oneCell' = true := by
  intro u hu
  obtain ⟨p, _, rfl⟩ := List.mem_map.1 hu
  rfl

theorem one_row (w : World) (u : Value) : Row (w.alloc (.cells #[u] 22)) w.heap.size 22 1 (some ⟨w.heap.size, 0, none⟩) 1 1 [u] :=
  ⟨rfl, Nat.le_refl _, by simp [maxLen], fun _ => ⟨w.heap.size, #[u], rfl, Nat.le_refl _, Blk.new _ _ _, Nat.le_refl _, rfl⟩⟩

theorem arm_store8 {P : Program} {o : Oper} {a : Act} {w : World} {K : Act → World → Prop} {Q : Exit → Act → World → Prop} {b : Bool} (hw : b = true) (T : TypeId) (p x : Operand) (ho : o.op = .store T p x) (g : Nat) (hp : a.eval p = .pointer (some ⟨g, 0, none⟩)) (bs : List UInt8) (hx : a.eval x = .agg (arr8 bs)) {n : Nat} (hT : AggT P T n) (hn : bs.length = n)
    {t : TypeId} {cur : Array Value} (hb : Blk w g t cur) (hc : cur.size = n) (h : ∀ w', Blk w' g t (arr8 bs) → w.grownBy w' (some g) → w'.heap.size = w.heap.size → K (a.put o.dst undef) w') : if b = true then o.wp P a w K Q else K (a.put o.dst undef) w := by
  rw [if_pos hw]
  exact wp_store_agg T p x ho g 0 hp (bs.map b8) hx ((by simpa using hn : (bs.map b8).length = n) ▸ hT) t cur hb (by rw [List.length_map, hn, hc]; omega) (b8_one _) fun w' h1 h2 h3 =>
    h w' (by rw [splice_whole cur _ (by rw [List.length_map, hn, hc])] at h1; exact h1) h2 h3

set_option maxHeartbeats 2000000 in
theorem tag_c {w : World} {B B' : Nat} {A A' : Option Addr} {n c n' c' : Nat} {key : List UInt8} (ps : List Part) (hk : SlB w B A n c key) (hB : B ≤ w.heap.size) (hn : n ≤ 1099511627776)
    (ha : Sl w B' 1 A' n' c' (ps.map Part.v)) (hB' : B' ≤ w.heap.size) (hps : ∀ p ∈ ps, SlB w B' p.A p.n p.c p.bs) (ht : total ps ≤ 1099511627000) (hn' : n' ≤ 1000000) :
    Calls Try.prog 30 #[.slice A n c, .slice A' n' c'] w fun e w' => e = .returned (.agg (arr8 (hmac key (joined ps)))) ∧ Below w.heap.size w w' := by
  have b4 := Blk.new w 28 (arr8 (z8' 32))
  have hb0 : Below w.heap.size w (w.alloc (.cells (arr8 (z8' 32)) 28)) := (Below.refl _ _).alloc (Nat.le_refl _) _
  obtain ⟨v, hv⟩ : ∃ v, v = w.alloc (.cells (arr8 (z8' 32)) 28) := ⟨_, rfl⟩
  rw [← hv] at b4 hb0
  have hz0 := hb0.size
  have hl4 := b4.lt
  have HV := Lib.hid hv
  have hk0 := hk.below (hb0.mono hB)
  have HA := Lib.hid ha
  have HPS := Lib.hid hps
  have HTT := Lib.hid ht
  clear hv ha hps ht hk
  obtain ⟨i0, hI, hi0, hi1, hi2⟩ := info_parts slices_info
  go_enter Try.func30, Try.ntmps30
  go_wp2_with (first
    | ((with_reducible show wpList _ _ _ (Oper.mk (some 4) (Op.alloc 28) _ _ _ _ :: _) _ _); refine wpList_alloc_agg rfl 28 rfl (arr8 (z8' 32)) zero44 ?_; (try rw [World.size_alloc]); (try rw [← HV.out]))
    | (go_at_call 46; refine (key_c hk0 (Nat.le_trans hB hz0) hn).mono ?_; rintro e v1 ⟨rfl, hb1⟩; have b5 := Blk.new v1 81 (arr8 (z8' 64)))
    | ((with_reducible show wpList _ _ _ (Oper.mk _ (Op.alloc 81) _ _ _ _ :: _) _ _); refine wpList_alloc_agg rfl 81 rfl (arr8 (z8' 64)) zeroP34 ?_; (try rw [World.size_alloc]))
    | ((with_reducible show wpList _ _ _ (Oper.mk none (Op.store 81 _ _) _ _ _ _ :: _) _ _); refine wpList_store8 rfl 81 (.tmp 5) (.tmp 8) rfl v1.heap.size rfl (keyPiece key) rfl aggP64 (len_keyPiece _) _ _ b5 (by rw [size_arr8, len_z8']) ?_; intro v2 hb2 hg2 hs2; have hv2 : Below v.heap.size v v2 := (hb1.alloc hb1.size _).grown hg2 (Nat.le_trans hb1.size (by simp)) (fun k hk => by cases hk; exact hb1.size))
    | ((with_reducible show wpList _ _ _ (Oper.mk (some 9) (Op.load 81 _) _ _ _ _ :: _) _ _); refine wpList_load_whole rfl 81 (.tmp 5) rfl v1.heap.size rfl (arr8 (keyPiece key)) aggP64 (by rw [size_arr8, len_keyPiece]) 81 hb2 ?_)
    | (go_at_call 47; refine (masked_c (keyPiece key) (len_keyPiece _) 0x36 _).mono ?_; rintro e v3 ⟨rfl, hm3, hb3⟩; rw [hs2, World.size_alloc] at hm3; have hv3 : Below v.heap.size v v3 := hv2.trans (hb3.mono hv2.size); have r0 := one_row v3 (.slice (some ⟨v1.heap.size + 1, 0, none⟩) 64 64); have ha3 := ((HA.out.below (hb0.mono hB')).below (hv3.mono (Nat.le_trans hB' hz0))).more (Nat.le_trans hB' (Nat.le_trans hz0 hv3.size)) |>.below ((Below.refl v3.heap.size v3).alloc (Nat.le_refl _) (.cells #[.slice (some ⟨v1.heap.size + 1, 0, none⟩) 64 64] 22)))
    | (at_builtin; refine wpList_append_row rfl (.tmp 11) (.tmp 12) _ rfl Try.underlying49 hI hi0 hi1 hi2 rfl rfl r0 rfl ha3 (parts_one ps) (by omega) (by simp only [maxLen]; omega) (by simp) ?_; intro A4 c4 v4 h4 q4; have hb4 : Below v3.heap.size v3 v4 := q4.below r0 ((Below.refl _ _).alloc (Nat.le_refl _) _) (Nat.le_refl _) (by simp)))
  have hv4 := hv3.trans (hb4.mono hv3.size)
  have hm4 : SlB v4 v4.heap.size (some ⟨v1.heap.size + 1, 0, none⟩) 64 64 (inPart key) := (hm3.below hb4).more hb4.size
  have hin : joined (⟨some ⟨v1.heap.size + 1, 0, none⟩, 64, 64, inPart key⟩ :: ps) = inPart key ++ joined ps := by simp [joined]
  have hto : total (⟨some ⟨v1.heap.size + 1, 0, none⟩, 64, 64, inPart key⟩ :: ps) ≤ 1099511627776 := by
    have := HTT.out
    have e : total (⟨some ⟨v1.heap.size + 1, 0, none⟩, 64, 64, inPart key⟩ :: ps) = 64 + total ps := by simp [total]
    omega
  have hsl4 : Sl v4 v4.heap.size 1 A4 (1 + n') c4 ((⟨some ⟨v1.heap.size + 1, 0, none⟩, 64, 64, inPart key⟩ :: ps).map Part.v) := h4.sl
  have hps4 : ∀ p ∈ (⟨some ⟨v1.heap.size + 1, 0, none⟩, 64, 64, inPart key⟩ :: ps : List Part), SlB v4 v4.heap.size p.A p.n p.c p.bs := fun p hp => by
    rcases List.mem_cons.1 hp with rfl | hp
    · exact hm4
    · exact SlB.more (((HPS.out p hp).below (hb0.mono hB')).below (hv4.mono (Nat.le_trans hB' hz0))) (Nat.le_trans hB' (Nat.le_trans hz0 hv4.size))
  refine (of_c _ hsl4 (Nat.le_refl _) hps4 hto).mono ?_
  rintro e v5 ⟨rfl, hb5⟩
  rw [hin]
  have b6 := Blk.new v5 28 (arr8 (z8' 32))
  have hv5 := hv4.trans (hb5.mono hv4.size)
  have c5 : Blk v5 v1.heap.size 81 (arr8 (keyPiece key)) := ((hb2.below hb3 hb2.lt).below hb4 (Nat.lt_of_lt_of_le hb2.lt hb3.size)).below hb5 (Nat.lt_of_lt_of_le (Nat.lt_of_lt_of_le hb2.lt hb3.size) hb4.size)
  have c4' : Blk v5 w.heap.size 28 (arr8 (z8' 32)) := b4.below hv5 b4.lt
  go_wp2_with (first
    | ((with_reducible show wpList _ _ _ (Oper.mk _ (Op.alloc 28) _ _ _ _ :: _) _ _); refine wpList_alloc_agg rfl 28 rfl (arr8 (z8' 32)) zero44 ?_; (try rw [World.size_alloc]))
    | ((with_reducible show wpList _ _ _ (Oper.mk none (Op.store 28 _ _) _ _ _ _ :: _) _ _); refine wpList_store8 rfl 28 (.tmp 6) (.tmp 14) rfl v5.heap.size rfl (sha (inPart key ++ joined ps)) rfl agg44 (len_sha _) _ _ b6 (by rw [size_arr8, len_z8']) ?_; intro v6 hb6 hg6 hs6; simp only [Act.put, List.setIfInBounds_toArray, List.set_cons_succ, List.set_cons_zero]))
  have hv6 : Below v.heap.size v v6 := (hv5.alloc hv5.size _).grown hg6 (Nat.le_trans hv5.size (by simp)) (fun k hk => by cases hk; exact hv5.size)
  have c5 : Blk v6 v1.heap.size 81 (arr8 (keyPiece key)) := (c5.alloc _).grown hg6 (fun e => by have h1 := c5.lt; have h2 := Option.some.inj e; omega)
  have d4 : Blk v6 w.heap.size 28 (arr8 (z8' 32)) := (c4'.alloc _).grown hg6 (fun e => by have h1 := c4'.lt; have h2 := Option.some.inj e; omega)
  have hz6 := hb0.trans (hv6.mono hz0)
  have hsz6 := hz6.size
  have hofd : ∀ W, Below v6.drew.heap.size v6.drew W → SlB W W.heap.size (some ⟨v6.drew.heap.size, 0, none⟩) 64 64 (outPart key) → Calls Try.prog 36 #[.slice (some ⟨W.heap.size, 0, none⟩) 2 2] (W.alloc (.cells #[.slice (some ⟨v6.drew.heap.size, 0, none⟩) 64 64, .slice (some ⟨v5.heap.size, 0, none⟩) 32 32] 22)) fun e w' => e = .returned (.agg (arr8 (hmac key (joined ps)))) ∧ Below W.heap.size W w' := fun W hW hm => by
    have hal : Below W.heap.size W (W.alloc (.cells #[.slice (some ⟨v6.drew.heap.size, 0, none⟩) 64 64, .slice (some ⟨v5.heap.size, 0, none⟩) 32 32] 22)) := (Below.refl _ _).alloc (Nat.le_refl _) _
    have h6 : SlB W W.heap.size (some ⟨v5.heap.size, 0, none⟩) 32 32 (sha (inPart key ++ joined ps)) := sum_sl (hb6.drew.below hW hb6.lt) (len_sha _)
    refine (of_c (B := (W.alloc (.cells #[.slice (some ⟨v6.drew.heap.size, 0, none⟩) 64 64, .slice (some ⟨v5.heap.size, 0, none⟩) 32 32] 22)).heap.size) [⟨some ⟨v6.drew.heap.size, 0, none⟩, 64, 64, outPart key⟩, ⟨some ⟨v5.heap.size, 0, none⟩, 32, 32, sha (inPart key ++ joined ps)⟩] ⟨rfl, Nat.le_refl _, by simp [maxLen], fun _ => ⟨W.heap.size, 0, rfl, by simp, fun j u hu => ?_⟩⟩ (Nat.le_refl _) ?_ (by simp [total])).mono ?_
    · rw [(Blk.new W 22 #[.slice (some ⟨v6.drew.heap.size, 0, none⟩) 64 64, .slice (some ⟨v5.heap.size, 0, none⟩) 32 32]).cell, Nat.zero_add]
      simpa [Part.v] using hu
    · intro q hq
      simp only [List.mem_cons, List.not_mem_nil, or_false] at hq
      rcases hq with rfl | rfl
      · exact SlB.more (hm.alloc (Nat.le_refl _) _) hal.size
      · exact SlB.more (h6.alloc (Nat.le_refl _) _) hal.size
    · rintro e w' ⟨rfl, hb'⟩
      exact ⟨by simp [joined, hmac], hal.trans (hb'.mono hal.size)⟩
  have h32 := arr_all_run (P := Try.prog) (T := 28) Try.underlying28 size1 (by omega) v5.heap.size
  have v6d : Below v6.heap.size v6 v6.drew := (Below.refl _ _).drew
  have hV0 : Below v6.drew.heap.size v6.drew v6.drew := Below.refl _ _
  have fin : ∀ (W7 W6 : World), Blk W7 w.heap.size 28 (arr8 (hmac key (joined ps))) → W6.grownBy W7 (some w.heap.size) → Below v6.drew.heap.size v6.drew W6 → Blk W7 w.heap.size 28 (arr8 (hmac key (joined ps))) ∧ Below w.heap.size w W7 := fun W7 W6 h1 h2 h3 =>
    ⟨h1, (hz6.trans ((v6d.trans h3).mono hsz6)).grown h2 (Nat.le_trans hsz6 (Nat.le_trans v6d.size h3.size)) (fun k hk => by cases hk; exact Nat.le_refl _)⟩
  clear hs6
  refine Code.wp_mono (Q := Exit.then (fun a' w' => (∃ T : Array Value, a' = { tmps := T, defers := [] } ∧ T.getD 4 undef = .pointer (some ⟨w.heap.size, 0, none⟩)) ∧ Blk w' w.heap.size 28 (arr8 (hmac key (joined ps))) ∧ Below w.heap.size w w') (fun _ _ _ => False)) ?_ ?_
  rotate_left
  · skip
    refine wp_region_any (by kernel_rfl) ?_
    show wpAny _ _ _ _ 6 #[false, false, false, false, false, false] _ _
    refine wpAny_take (i := 2) rfl (by kernel_rfl) (by kernel_rfl) (by kernel_rfl) (fun _ _ _ h => h) (Or.inl ⟨by rfl, by intro w; go_simp; first | done | with_reducible rfl⟩) ?_
    simp only [List.getElem_toArray, List.getElem_cons_zero, List.getElem_cons_succ, Act.put, List.setIfInBounds_toArray, List.set_cons_succ, List.set_cons_zero]
    show wpAny _ _ _ _ 5 #[false, false, true, false, false, false] _ _
    refine wpAny_ready (rs := [0]) (by kernel_rfl) (by simp) ?_
    refine AllReady.cons rfl (fun K hK => ?_) (AllReady.nil)
    refine arm_load_blk rfl 81 (.tmp 5) rfl v1.heap.size rfl _ aggP64 (by rw [size_arr8, len_keyPiece]) (Blk.drew c5) (hK _ _ ?_)
    simp only [List.getElem_toArray, List.getElem_cons_zero, List.getElem_cons_succ, Act.put, List.setIfInBounds_toArray, List.set_cons_succ, List.set_cons_zero]
    clear hK K
    show wpAny _ _ _ _ 4 #[true, false, true, false, false, false] _ _
    refine wpAny_ready (rs := [1]) (by kernel_rfl) (by simp) ?_
    refine AllReady.cons rfl (fun K hK => ?_) (AllReady.nil)
    go_simp
    refine (masked_c (keyPiece key) (len_keyPiece _) 0x5c _).mono ?_
    rintro e W12 ⟨rfl, hm12, hb12⟩
    have hV12 := hV0.trans (hb12.mono hV0.size)
    refine hK _ _ ?_
    simp only [List.getElem_toArray, List.getElem_cons_zero, List.getElem_cons_succ, Act.put, List.setIfInBounds_toArray, List.set_cons_succ, List.set_cons_zero]
    clear hK K
    show wpAny _ _ _ _ 3 #[true, true, true, false, false, false] _ _
    refine wpAny_ready (rs := [3]) (by kernel_rfl) (by simp) ?_
    refine AllReady.cons rfl (fun K hK => ?_) (AllReady.nil)
    go_simp
    refine hK _ _ ?_
    simp only [List.getElem_toArray, List.getElem_cons_zero, List.getElem_cons_succ, Act.put, List.setIfInBounds_toArray, List.set_cons_succ, List.set_cons_zero]
    clear hK K
    show wpAny _ _ _ _ 2 #[true, true, true, true, false, false] _ _
    refine wpAny_ready (rs := [4]) (by kernel_rfl) (by simp) ?_
    refine AllReady.cons rfl (fun K hK => ?_) (AllReady.nil)
    go_simp
    refine (hofd _ hV12 hm12).mono ?_
    rintro e W14 ⟨rfl, hb14⟩
    have hV14 := hV12.trans (hb14.mono hV12.size)
    refine hK _ _ ?_
    simp only [List.getElem_toArray, List.getElem_cons_zero, List.getElem_cons_succ, Act.put, List.setIfInBounds_toArray, List.set_cons_succ, List.set_cons_zero]
    clear hK K
    show wpAny _ _ _ _ 1 #[true, true, true, true, true, false] _ _
    refine wpAny_ready (rs := [5]) (by kernel_rfl) (by simp) ?_
    refine AllReady.cons rfl (fun K hK => ?_) (AllReady.nil)
    refine arm_store8 rfl 28 (.tmp 4) (.tmp 19) rfl w.heap.size rfl (hmac key (joined ps)) rfl agg44 (len_hmac _ _) (Blk.below d4 (v6d.trans (hV14.mono (Nat.le_refl _))) d4.lt) (by rw [size_arr8, len_z8']) ?_
    intro W15 hb15 hg15 hs15
    refine hK _ _ ?_
    have hF := fin _ _ hb15 hg15 hV14
    simp only [List.getElem_toArray, List.getElem_cons_zero, List.getElem_cons_succ, Act.put, List.setIfInBounds_toArray, List.set_cons_succ, List.set_cons_zero]
    clear hK K
    show wpAny _ _ _ _ 0 _ _ _
    exact ⟨by kernel_rfl, ⟨_, rfl, rfl⟩, hF⟩
  rintro e a' w' h
  cases e with
  | normal =>
    obtain ⟨⟨T, rfl, hT⟩, hbk, hbw⟩ := h
    go_wp2_with fail
    refine bodyPost_ret (results_cell_one rfl _ w.heap.size _ (arr8 (hmac key (joined ps))) agg44 (by rw [size_arr8, len_hmac]) hT hbk) rfl ⟨rfl, hbw⟩
  | _ => exact h.elim
end Go.Proofs.Ytdifepfplfkfoaa
end
