/-
  pdu.Decode: the frame of bytes (printed by wip/gen_dec.py).
-/
import Derived.Test.YtjjpifppdjpcnaaPduLaw
import Derived.Test.YtjjpifppdjpcnaaTake
namespace Go.Proofs.Ytjjpifppdjpcnaa
open Go.RowKit
set_option linter.unusedVariables false
set_option linter.unusedSimpArgs false
set_option maxRecDepth 100000

theorem zero33 : (Try.prog.info? 87).bind (·.zero) = some (.agg #[.int .i64 0, .int .i64 0, .int .i64 0]) := by kernel_rfl
theorem encode_any {w : World} {B : Nat} {A : Option Addr} {m c : Nat} {ds : List UInt8} (kind n code : Int) (hd : SlB w B A m c ds) (hB : B ≤ w.heap.size) :
    Calls Try.prog 13 #[.agg #[.int .i64 kind, .int .i64 n, .int .i64 code, .slice A m c]] w fun e w' => ∃ A6 k6 c6 ev, e = .returned (.tuple #[.slice A6 k6 c6, ev]) ∧ Below w.heap.size w w' := by
  by_cases h : okF kind n code m
  · refine (encode_ok kind n code hd hB h).mono ?_
    rintro e w' ⟨A', c', rfl, _, hb⟩
    exact ⟨_, _, _, _, rfl, hb⟩
  · refine (encode_bad kind n code hd hB h).mono ?_
    rintro e w' ⟨rfl, hb⟩
    exact ⟨_, _, _, _, rfl, hb⟩

set_option maxHeartbeats 4000000 in
theorem decode_short0 {w : World} {B : Nat} {A : Option Addr} {n c : Nat} {bs : List UInt8} (hb : SlB w B A n c bs) (hB : B ≤ w.heap.size) (hn : n ≤ 140737488280000) (hs : n < 1) :
    Calls Try.prog 23 #[.slice A n c] w fun e w' => e = .returned (.tuple #[.agg #[.int .i64 0, .int .i64 0, .int .i64 0, .slice none 0 0], .iface 35 (.int .i64 10)]) ∧ Below w.heap.size w w' := by
  have hlen := hb.len
  have hcap := hb.le
  obtain ⟨V0, hV0⟩ : ∃ V0, V0 = ((w.alloc (.cells #[.int .i64 0, .int .i64 0, .int .i64 0, .slice none 0 0] 24)).alloc (.cells #[.int .i64 0, .int .i64 0, .int .i64 0] 87)).alloc (.cells #[.int .i64 1, .int .i64 4, .int .i64 1] 3) := ⟨_, rfl⟩
  have hw0 : Below w.heap.size w V0 := by rw [hV0]; exact (((Below.refl _ _).alloc (Nat.le_refl _) _).alloc (by simp) _).alloc (by simp; omega) _
  have hz0 := hw0.size
  have b20 : Blk V0 w.heap.size 24 #[.int .i64 0, .int .i64 0, .int .i64 0, .slice none 0 0] := by rw [hV0]; exact ((Blk.new w _ _).alloc _).alloc _
  have b40 : Blk V0 (w.heap.size + 1) 87 #[.int .i64 0, .int .i64 0, .int .i64 0] := by
    have := (Blk.new (w.alloc (.cells #[.int .i64 0, .int .i64 0, .int .i64 0, .slice none 0 0] 24)) 87 #[.int .i64 0, .int .i64 0, .int .i64 0]).alloc (.cells #[.int .i64 1, .int .i64 4, .int .i64 1] 3)
    rw [World.size_alloc] at this
    rw [hV0]; exact this
  have bL0 : Blk V0 (w.heap.size + 1 + 1) 3 #[.int .i64 1, .int .i64 4, .int .i64 1] := by
    have := Blk.new ((w.alloc (.cells #[.int .i64 0, .int .i64 0, .int .i64 0, .slice none 0 0] 24)).alloc (.cells #[.int .i64 0, .int .i64 0, .int .i64 0] 87)) 3 #[.int .i64 1, .int .i64 4, .int .i64 1]
    rw [World.size_alloc, World.size_alloc] at this
    rw [hV0]; exact this
  have s0 := hb.below (hw0.mono hB)
  have hB0 := Nat.le_trans hB hz0
  have HV0 := Lib.hid hV0
  have HS0 := Lib.hid s0
  clear hV0 s0 hb
  go_enter Try.func23, Try.ntmps23
  go_wp2_with (first
    | ((with_reducible show wpList _ _ _ (Oper.mk (some 2) (Op.alloc _) _ _ _ _ :: _) _ _); refine wpList_alloc_agg rfl 24 rfl #[.int .i64 0, .int .i64 0, .int .i64 0, .slice none 0 0] zeroFr ?_)
    | ((with_reducible show wpList _ _ _ (Oper.mk (some 4) (Op.alloc _) _ _ _ _ :: _) _ _); refine wpList_alloc_agg rfl 87 rfl #[.int .i64 0, .int .i64 0, .int .i64 0] zero33 ?_))
  rw [← HV0.out]
  refine wp_loop_rounds 4 ?_
  rw [rounds_succ]
  have e0L : V0.cell? ⟨(w.heap.size + 1 + 1), 0, none⟩ = some (.int .i64 1) := by rw [bL0.cell]; rfl
  have h4w : w.heap.size + 1 < V0.heap.size := b40.lt
  have k4 : V0.cell? ⟨(w.heap.size + 1), 0, none⟩ = some (.int .i64 0) := (by rw [b40.cell]; rfl)
  have f4 := b40.frozen 0
  have b2s : Blk (V0.setCell ⟨(w.heap.size + 1), 0, none⟩ (.int .i64 0)) w.heap.size 24 #[.int .i64 0, .int .i64 0, .int .i64 0, .slice none 0 0] := b20.far (by show w.heap.size ≠ w.heap.size + 1; omega) _
  have hws := hw0.setCell (p := ⟨(w.heap.size + 1), 0, none⟩) (by show w.heap.size ≤ w.heap.size + 1; omega) (.int .i64 0)
  go_wp2_with (first
    | (go_at_call 49; refine (take_bad2 (s := 1) (by simp [sz]) (by omega)).mono ?_; rintro e w' ⟨rfl, rfl⟩)
    | ((with_reducible show wpList _ _ _ (Oper.mk none (Op.store 24 _ _) _ _ _ _ :: _) _ _); refine wpList_store_whole rfl 24 (.tmp 2) (.tmp 34) rfl w.heap.size rfl [.int .i64 0, .int .i64 0, .int .i64 0, .slice none 0 0] rfl aggFr rfl _ _ b2s rfl (by simp [Value.oneCell']) ?_; intro wf bf gf sf))
  refine bodyPost_ret (results_cell_tmp rfl _ w.heap.size _ #[.int .i64 0, .int .i64 0, .int .i64 0, .slice none 0 0] aggFr rfl rfl bf) rfl ⟨rfl, ?_⟩
  exact (hws).grown gf (hws).size (fun k hk => by cases hk; exact Nat.le_refl _)

set_option maxHeartbeats 4000000 in
theorem decode_short1 {w : World} {B : Nat} {A : Option Addr} {n c : Nat} {bs : List UInt8} (hb : SlB w B A n c bs) (hB : B ≤ w.heap.size) (hn : n ≤ 140737488280000) (hs : 1 ≤ n ∧ n < 5) :
    Calls Try.prog 23 #[.slice A n c] w fun e w' => e = .returned (.tuple #[.agg #[.int .i64 0, .int .i64 0, .int .i64 0, .slice none 0 0], .iface 35 (.int .i64 10)]) ∧ Below w.heap.size w w' := by
  have hlen := hb.len
  have hcap := hb.le
  obtain ⟨V0, hV0⟩ : ∃ V0, V0 = ((w.alloc (.cells #[.int .i64 0, .int .i64 0, .int .i64 0, .slice none 0 0] 24)).alloc (.cells #[.int .i64 0, .int .i64 0, .int .i64 0] 87)).alloc (.cells #[.int .i64 1, .int .i64 4, .int .i64 1] 3) := ⟨_, rfl⟩
  have hw0 : Below w.heap.size w V0 := by rw [hV0]; exact (((Below.refl _ _).alloc (Nat.le_refl _) _).alloc (by simp) _).alloc (by simp; omega) _
  have hz0 := hw0.size
  have b20 : Blk V0 w.heap.size 24 #[.int .i64 0, .int .i64 0, .int .i64 0, .slice none 0 0] := by rw [hV0]; exact ((Blk.new w _ _).alloc _).alloc _
  have b40 : Blk V0 (w.heap.size + 1) 87 #[.int .i64 0, .int .i64 0, .int .i64 0] := by
    have := (Blk.new (w.alloc (.cells #[.int .i64 0, .int .i64 0, .int .i64 0, .slice none 0 0] 24)) 87 #[.int .i64 0, .int .i64 0, .int .i64 0]).alloc (.cells #[.int .i64 1, .int .i64 4, .int .i64 1] 3)
    rw [World.size_alloc] at this
    rw [hV0]; exact this
  have bL0 : Blk V0 (w.heap.size + 1 + 1) 3 #[.int .i64 1, .int .i64 4, .int .i64 1] := by
    have := Blk.new ((w.alloc (.cells #[.int .i64 0, .int .i64 0, .int .i64 0, .slice none 0 0] 24)).alloc (.cells #[.int .i64 0, .int .i64 0, .int .i64 0] 87)) 3 #[.int .i64 1, .int .i64 4, .int .i64 1]
    rw [World.size_alloc, World.size_alloc] at this
    rw [hV0]; exact this
  have s0 := hb.below (hw0.mono hB)
  have hB0 := Nat.le_trans hB hz0
  have HV0 := Lib.hid hV0
  have HS0 := Lib.hid s0
  clear hV0 s0 hb
  go_enter Try.func23, Try.ntmps23
  go_wp2_with (first
    | ((with_reducible show wpList _ _ _ (Oper.mk (some 2) (Op.alloc _) _ _ _ _ :: _) _ _); refine wpList_alloc_agg rfl 24 rfl #[.int .i64 0, .int .i64 0, .int .i64 0, .slice none 0 0] zeroFr ?_)
    | ((with_reducible show wpList _ _ _ (Oper.mk (some 4) (Op.alloc _) _ _ _ _ :: _) _ _); refine wpList_alloc_agg rfl 87 rfl #[.int .i64 0, .int .i64 0, .int .i64 0] zero33 ?_))
  rw [← HV0.out]
  refine wp_loop_rounds 4 ?_
  rw [rounds_succ]
  have e0L : V0.cell? ⟨(w.heap.size + 1 + 1), 0, none⟩ = some (.int .i64 1) := by rw [bL0.cell]; rfl
  go_wp2_with (first
    | (go_at_call 49; refine (take_ok HS0.out hB0 (by omega) (k := 1) (by simp [sz]) (by omega)).mono ?_; rintro e w1 ⟨A1, c1, rfl, ho1, hb1⟩; rw [show i64v (bigN (bs.take 1)) = d0 bs from rfl]; have h4w : w.heap.size + 1 < V0.heap.size := b40.lt; have b4w := b40.below hb1 b40.lt; have k4 : w1.cell? ⟨(w.heap.size + 1), 0, none⟩ = some (.int .i64 0) := (by rw [b4w.cell]; rfl); have f4 := b4w.frozen 0))
  obtain ⟨V1, hV1⟩ : ∃ V, V = w1.setCell ⟨(w.heap.size + 1), 0, none⟩ (.int .i64 (d0 bs)) := ⟨_, rfl⟩
  have hvv : Below w.heap.size w V1 := by rw [hV1]; exact ((hw0.trans (hb1.mono hz0))).setCell (by show w.heap.size ≤ w.heap.size + 1; omega) _
  have hw1 := hvv
  have hz1 := hw1.size
  have b21 : Blk V1 w.heap.size 24 #[.int .i64 0, .int .i64 0, .int .i64 0, .slice none 0 0] := by rw [hV1]; exact (b20.below hb1 b20.lt).far (by show w.heap.size ≠ w.heap.size + 1; omega) _
  have b41 : Blk V1 (w.heap.size + 1) 87 #[.int .i64 (d0 bs), .int .i64 0, .int .i64 0] := by rw [hV1]; simpa using b4w.set_ 0 (.int .i64 (d0 bs))
  have bL1 : Blk V1 (w.heap.size + 1 + 1) 3 #[.int .i64 1, .int .i64 4, .int .i64 1] := by rw [hV1]; exact (bL0.below hb1 bL0.lt).far (by show w.heap.size + 1 + 1 ≠ w.heap.size + 1; omega) _
  have ho1' : OwB V1 V0.heap.size A1 (n - 1) c1 (bs.drop 1) := by rw [hV1]; have := own_set ho1 h4w 0 (.int .i64 (d0 bs)); rwa [show (bs.drop 1) = bs.drop 1 from rfl] at this
  have HS1 := Lib.hid ho1'.sl
  have hB1 := Nat.le_refl V1.heap.size
  have HV1 := Lib.hid hV1
  rw [← HV1.out]
  clear hV1 k4 f4 b4w ho1 ho1' hb1
  rw [rounds_succ]
  have e1L : V1.cell? ⟨(w.heap.size + 1 + 1), 1, none⟩ = some (.int .i64 4) := by rw [bL1.cell]; rfl
  have h4w : w.heap.size + 1 < V1.heap.size := b41.lt
  have k4 : V1.cell? ⟨(w.heap.size + 1), 1, none⟩ = some (.int .i64 0) := (by rw [b41.cell]; rfl)
  have f4 := b41.frozen 1
  have b2s : Blk (V1.setCell ⟨(w.heap.size + 1), 1, none⟩ (.int .i64 0)) w.heap.size 24 #[.int .i64 0, .int .i64 0, .int .i64 0, .slice none 0 0] := b21.far (by show w.heap.size ≠ w.heap.size + 1; omega) _
  have hws := hw1.setCell (p := ⟨(w.heap.size + 1), 1, none⟩) (by show w.heap.size ≤ w.heap.size + 1; omega) (.int .i64 0)
  go_wp2_with (first
    | (go_at_call 49; refine (take_bad2 (s := 4) (by simp [sz]) (by omega)).mono ?_; rintro e w' ⟨rfl, rfl⟩)
    | ((with_reducible show wpList _ _ _ (Oper.mk none (Op.store 24 _ _) _ _ _ _ :: _) _ _); refine wpList_store_whole rfl 24 (.tmp 2) (.tmp 34) rfl w.heap.size rfl [.int .i64 0, .int .i64 0, .int .i64 0, .slice none 0 0] rfl aggFr rfl _ _ b2s rfl (by simp [Value.oneCell']) ?_; intro wf bf gf sf))
  refine bodyPost_ret (results_cell_tmp rfl _ w.heap.size _ #[.int .i64 0, .int .i64 0, .int .i64 0, .slice none 0 0] aggFr rfl rfl bf) rfl ⟨rfl, ?_⟩
  exact (hws).grown gf (hws).size (fun k hk => by cases hk; exact Nat.le_refl _)

set_option maxHeartbeats 4000000 in
theorem decode_short2 {w : World} {B : Nat} {A : Option Addr} {n c : Nat} {bs : List UInt8} (hb : SlB w B A n c bs) (hB : B ≤ w.heap.size) (hn : n ≤ 140737488280000) (hs : 5 ≤ n ∧ n < 6) :
    Calls Try.prog 23 #[.slice A n c] w fun e w' => e = .returned (.tuple #[.agg #[.int .i64 0, .int .i64 0, .int .i64 0, .slice none 0 0], .iface 35 (.int .i64 10)]) ∧ Below w.heap.size w w' := by
  have hlen := hb.len
  have hcap := hb.le
  obtain ⟨V0, hV0⟩ : ∃ V0, V0 = ((w.alloc (.cells #[.int .i64 0, .int .i64 0, .int .i64 0, .slice none 0 0] 24)).alloc (.cells #[.int .i64 0, .int .i64 0, .int .i64 0] 87)).alloc (.cells #[.int .i64 1, .int .i64 4, .int .i64 1] 3) := ⟨_, rfl⟩
  have hw0 : Below w.heap.size w V0 := by rw [hV0]; exact (((Below.refl _ _).alloc (Nat.le_refl _) _).alloc (by simp) _).alloc (by simp; omega) _
  have hz0 := hw0.size
  have b20 : Blk V0 w.heap.size 24 #[.int .i64 0, .int .i64 0, .int .i64 0, .slice none 0 0] := by rw [hV0]; exact ((Blk.new w _ _).alloc _).alloc _
  have b40 : Blk V0 (w.heap.size + 1) 87 #[.int .i64 0, .int .i64 0, .int .i64 0] := by
    have := (Blk.new (w.alloc (.cells #[.int .i64 0, .int .i64 0, .int .i64 0, .slice none 0 0] 24)) 87 #[.int .i64 0, .int .i64 0, .int .i64 0]).alloc (.cells #[.int .i64 1, .int .i64 4, .int .i64 1] 3)
    rw [World.size_alloc] at this
    rw [hV0]; exact this
  have bL0 : Blk V0 (w.heap.size + 1 + 1) 3 #[.int .i64 1, .int .i64 4, .int .i64 1] := by
    have := Blk.new ((w.alloc (.cells #[.int .i64 0, .int .i64 0, .int .i64 0, .slice none 0 0] 24)).alloc (.cells #[.int .i64 0, .int .i64 0, .int .i64 0] 87)) 3 #[.int .i64 1, .int .i64 4, .int .i64 1]
    rw [World.size_alloc, World.size_alloc] at this
    rw [hV0]; exact this
  have s0 := hb.below (hw0.mono hB)
  have hB0 := Nat.le_trans hB hz0
  have HV0 := Lib.hid hV0
  have HS0 := Lib.hid s0
  clear hV0 s0 hb
  go_enter Try.func23, Try.ntmps23
  go_wp2_with (first
    | ((with_reducible show wpList _ _ _ (Oper.mk (some 2) (Op.alloc _) _ _ _ _ :: _) _ _); refine wpList_alloc_agg rfl 24 rfl #[.int .i64 0, .int .i64 0, .int .i64 0, .slice none 0 0] zeroFr ?_)
    | ((with_reducible show wpList _ _ _ (Oper.mk (some 4) (Op.alloc _) _ _ _ _ :: _) _ _); refine wpList_alloc_agg rfl 87 rfl #[.int .i64 0, .int .i64 0, .int .i64 0] zero33 ?_))
  rw [← HV0.out]
  refine wp_loop_rounds 4 ?_
  rw [rounds_succ]
  have e0L : V0.cell? ⟨(w.heap.size + 1 + 1), 0, none⟩ = some (.int .i64 1) := by rw [bL0.cell]; rfl
  go_wp2_with (first
    | (go_at_call 49; refine (take_ok HS0.out hB0 (by omega) (k := 1) (by simp [sz]) (by omega)).mono ?_; rintro e w1 ⟨A1, c1, rfl, ho1, hb1⟩; rw [show i64v (bigN (bs.take 1)) = d0 bs from rfl]; have h4w : w.heap.size + 1 < V0.heap.size := b40.lt; have b4w := b40.below hb1 b40.lt; have k4 : w1.cell? ⟨(w.heap.size + 1), 0, none⟩ = some (.int .i64 0) := (by rw [b4w.cell]; rfl); have f4 := b4w.frozen 0))
  obtain ⟨V1, hV1⟩ : ∃ V, V = w1.setCell ⟨(w.heap.size + 1), 0, none⟩ (.int .i64 (d0 bs)) := ⟨_, rfl⟩
  have hvv : Below w.heap.size w V1 := by rw [hV1]; exact ((hw0.trans (hb1.mono hz0))).setCell (by show w.heap.size ≤ w.heap.size + 1; omega) _
  have hw1 := hvv
  have hz1 := hw1.size
  have b21 : Blk V1 w.heap.size 24 #[.int .i64 0, .int .i64 0, .int .i64 0, .slice none 0 0] := by rw [hV1]; exact (b20.below hb1 b20.lt).far (by show w.heap.size ≠ w.heap.size + 1; omega) _
  have b41 : Blk V1 (w.heap.size + 1) 87 #[.int .i64 (d0 bs), .int .i64 0, .int .i64 0] := by rw [hV1]; simpa using b4w.set_ 0 (.int .i64 (d0 bs))
  have bL1 : Blk V1 (w.heap.size + 1 + 1) 3 #[.int .i64 1, .int .i64 4, .int .i64 1] := by rw [hV1]; exact (bL0.below hb1 bL0.lt).far (by show w.heap.size + 1 + 1 ≠ w.heap.size + 1; omega) _
  have ho1' : OwB V1 V0.heap.size A1 (n - 1) c1 (bs.drop 1) := by rw [hV1]; have := own_set ho1 h4w 0 (.int .i64 (d0 bs)); rwa [show (bs.drop 1) = bs.drop 1 from rfl] at this
  have HS1 := Lib.hid ho1'.sl
  have hB1 := Nat.le_refl V1.heap.size
  have HV1 := Lib.hid hV1
  rw [← HV1.out]
  clear hV1 k4 f4 b4w ho1 ho1' hb1
  rw [rounds_succ]
  have e1L : V1.cell? ⟨(w.heap.size + 1 + 1), 1, none⟩ = some (.int .i64 4) := by rw [bL1.cell]; rfl
  go_wp2_with (first
    | (go_at_call 49; refine (take_ok HS1.out hB1 (by omega) (k := 4) (by simp [sz]) (by omega)).mono ?_; rintro e w2 ⟨A2, c2, rfl, ho2, hb2⟩; rw [show i64v (bigN ((bs.drop 1).take 4)) = d1 bs from rfl]; have h4w : w.heap.size + 1 < V1.heap.size := b41.lt; have b4w := b41.below hb2 b41.lt; have k4 : w2.cell? ⟨(w.heap.size + 1), 1, none⟩ = some (.int .i64 0) := (by rw [b4w.cell]; rfl); have f4 := b4w.frozen 1))
  obtain ⟨V2, hV2⟩ : ∃ V, V = w2.setCell ⟨(w.heap.size + 1), 1, none⟩ (.int .i64 (d1 bs)) := ⟨_, rfl⟩
  have hvv : Below w.heap.size w V2 := by rw [hV2]; exact ((hw1.trans (hb2.mono hz1))).setCell (by show w.heap.size ≤ w.heap.size + 1; omega) _
  have hw2 := hvv
  have hz2 := hw2.size
  have b22 : Blk V2 w.heap.size 24 #[.int .i64 0, .int .i64 0, .int .i64 0, .slice none 0 0] := by rw [hV2]; exact (b21.below hb2 b21.lt).far (by show w.heap.size ≠ w.heap.size + 1; omega) _
  have b42 : Blk V2 (w.heap.size + 1) 87 #[.int .i64 (d0 bs), .int .i64 (d1 bs), .int .i64 0] := by rw [hV2]; simpa using b4w.set_ 1 (.int .i64 (d1 bs))
  have bL2 : Blk V2 (w.heap.size + 1 + 1) 3 #[.int .i64 1, .int .i64 4, .int .i64 1] := by rw [hV2]; exact (bL1.below hb2 bL1.lt).far (by show w.heap.size + 1 + 1 ≠ w.heap.size + 1; omega) _
  have ho2' : OwB V2 V1.heap.size A2 (n - 1 - 4) c2 (bs.drop 5) := by rw [hV2]; have := own_set ho2 h4w 1 (.int .i64 (d1 bs)); rwa [List.drop_drop] at this
  have HS2 := Lib.hid ho2'.sl
  have hB2 := Nat.le_refl V2.heap.size
  have HV2 := Lib.hid hV2
  rw [← HV2.out]
  clear hV2 k4 f4 b4w ho2 ho2' hb2
  rw [rounds_succ]
  have e2L : V2.cell? ⟨(w.heap.size + 1 + 1), 2, none⟩ = some (.int .i64 1) := by rw [bL2.cell]; rfl
  have h4w : w.heap.size + 1 < V2.heap.size := b42.lt
  have k4 : V2.cell? ⟨(w.heap.size + 1), 2, none⟩ = some (.int .i64 0) := (by rw [b42.cell]; rfl)
  have f4 := b42.frozen 2
  have b2s : Blk (V2.setCell ⟨(w.heap.size + 1), 2, none⟩ (.int .i64 0)) w.heap.size 24 #[.int .i64 0, .int .i64 0, .int .i64 0, .slice none 0 0] := b22.far (by show w.heap.size ≠ w.heap.size + 1; omega) _
  have hws := hw2.setCell (p := ⟨(w.heap.size + 1), 2, none⟩) (by show w.heap.size ≤ w.heap.size + 1; omega) (.int .i64 0)
  go_wp2_with (first
    | (go_at_call 49; refine (take_bad2 (s := 1) (by simp [sz]) (by omega)).mono ?_; rintro e w' ⟨rfl, rfl⟩)
    | ((with_reducible show wpList _ _ _ (Oper.mk none (Op.store 24 _ _) _ _ _ _ :: _) _ _); refine wpList_store_whole rfl 24 (.tmp 2) (.tmp 34) rfl w.heap.size rfl [.int .i64 0, .int .i64 0, .int .i64 0, .slice none 0 0] rfl aggFr rfl _ _ b2s rfl (by simp [Value.oneCell']) ?_; intro wf bf gf sf))
  refine bodyPost_ret (results_cell_tmp rfl _ w.heap.size _ #[.int .i64 0, .int .i64 0, .int .i64 0, .slice none 0 0] aggFr rfl rfl bf) rfl ⟨rfl, ?_⟩
  exact (hws).grown gf (hws).size (fun k hk => by cases hk; exact Nat.le_refl _)

set_option maxHeartbeats 4000000 in
theorem decode_none {w : World} {B : Nat} {A : Option Addr} {n c : Nat} {bs : List UInt8} (hb : SlB w B A n c bs) (hB : B ≤ w.heap.size) (hn : n ≤ 140737488280000) (h6 : 6 ≤ n) (hrow : rowLen (bs.drop 6) = none) :
    Calls Try.prog 23 #[.slice A n c] w fun e w' => e = .returned (.tuple #[.agg #[.int .i64 0, .int .i64 0, .int .i64 0, .slice none 0 0], .iface 35 (.int .i64 10)]) ∧ Below w.heap.size w w' := by
  have hlen := hb.len
  have hcap := hb.le
  obtain ⟨V0, hV0⟩ : ∃ V0, V0 = ((w.alloc (.cells #[.int .i64 0, .int .i64 0, .int .i64 0, .slice none 0 0] 24)).alloc (.cells #[.int .i64 0, .int .i64 0, .int .i64 0] 87)).alloc (.cells #[.int .i64 1, .int .i64 4, .int .i64 1] 3) := ⟨_, rfl⟩
  have hw0 : Below w.heap.size w V0 := by rw [hV0]; exact (((Below.refl _ _).alloc (Nat.le_refl _) _).alloc (by simp) _).alloc (by simp; omega) _
  have hz0 := hw0.size
  have b20 : Blk V0 w.heap.size 24 #[.int .i64 0, .int .i64 0, .int .i64 0, .slice none 0 0] := by rw [hV0]; exact ((Blk.new w _ _).alloc _).alloc _
  have b40 : Blk V0 (w.heap.size + 1) 87 #[.int .i64 0, .int .i64 0, .int .i64 0] := by
    have := (Blk.new (w.alloc (.cells #[.int .i64 0, .int .i64 0, .int .i64 0, .slice none 0 0] 24)) 87 #[.int .i64 0, .int .i64 0, .int .i64 0]).alloc (.cells #[.int .i64 1, .int .i64 4, .int .i64 1] 3)
    rw [World.size_alloc] at this
    rw [hV0]; exact this
  have bL0 : Blk V0 (w.heap.size + 1 + 1) 3 #[.int .i64 1, .int .i64 4, .int .i64 1] := by
    have := Blk.new ((w.alloc (.cells #[.int .i64 0, .int .i64 0, .int .i64 0, .slice none 0 0] 24)).alloc (.cells #[.int .i64 0, .int .i64 0, .int .i64 0] 87)) 3 #[.int .i64 1, .int .i64 4, .int .i64 1]
    rw [World.size_alloc, World.size_alloc] at this
    rw [hV0]; exact this
  have s0 := hb.below (hw0.mono hB)
  have hB0 := Nat.le_trans hB hz0
  have HV0 := Lib.hid hV0
  have HS0 := Lib.hid s0
  clear hV0 s0 hb
  go_enter Try.func23, Try.ntmps23
  go_wp2_with (first
    | ((with_reducible show wpList _ _ _ (Oper.mk (some 2) (Op.alloc _) _ _ _ _ :: _) _ _); refine wpList_alloc_agg rfl 24 rfl #[.int .i64 0, .int .i64 0, .int .i64 0, .slice none 0 0] zeroFr ?_)
    | ((with_reducible show wpList _ _ _ (Oper.mk (some 4) (Op.alloc _) _ _ _ _ :: _) _ _); refine wpList_alloc_agg rfl 87 rfl #[.int .i64 0, .int .i64 0, .int .i64 0] zero33 ?_))
  rw [← HV0.out]
  refine wp_loop_rounds 4 ?_
  rw [rounds_succ]
  have e0L : V0.cell? ⟨(w.heap.size + 1 + 1), 0, none⟩ = some (.int .i64 1) := by rw [bL0.cell]; rfl
  go_wp2_with (first
    | (go_at_call 49; refine (take_ok HS0.out hB0 (by omega) (k := 1) (by simp [sz]) (by omega)).mono ?_; rintro e w1 ⟨A1, c1, rfl, ho1, hb1⟩; rw [show i64v (bigN (bs.take 1)) = d0 bs from rfl]; have h4w : w.heap.size + 1 < V0.heap.size := b40.lt; have b4w := b40.below hb1 b40.lt; have k4 : w1.cell? ⟨(w.heap.size + 1), 0, none⟩ = some (.int .i64 0) := (by rw [b4w.cell]; rfl); have f4 := b4w.frozen 0))
  obtain ⟨V1, hV1⟩ : ∃ V, V = w1.setCell ⟨(w.heap.size + 1), 0, none⟩ (.int .i64 (d0 bs)) := ⟨_, rfl⟩
  have hvv : Below w.heap.size w V1 := by rw [hV1]; exact ((hw0.trans (hb1.mono hz0))).setCell (by show w.heap.size ≤ w.heap.size + 1; omega) _
  have hw1 := hvv
  have hz1 := hw1.size
  have b21 : Blk V1 w.heap.size 24 #[.int .i64 0, .int .i64 0, .int .i64 0, .slice none 0 0] := by rw [hV1]; exact (b20.below hb1 b20.lt).far (by show w.heap.size ≠ w.heap.size + 1; omega) _
  have b41 : Blk V1 (w.heap.size + 1) 87 #[.int .i64 (d0 bs), .int .i64 0, .int .i64 0] := by rw [hV1]; simpa using b4w.set_ 0 (.int .i64 (d0 bs))
  have bL1 : Blk V1 (w.heap.size + 1 + 1) 3 #[.int .i64 1, .int .i64 4, .int .i64 1] := by rw [hV1]; exact (bL0.below hb1 bL0.lt).far (by show w.heap.size + 1 + 1 ≠ w.heap.size + 1; omega) _
  have ho1' : OwB V1 V0.heap.size A1 (n - 1) c1 (bs.drop 1) := by rw [hV1]; have := own_set ho1 h4w 0 (.int .i64 (d0 bs)); rwa [show (bs.drop 1) = bs.drop 1 from rfl] at this
  have HS1 := Lib.hid ho1'.sl
  have hB1 := Nat.le_refl V1.heap.size
  have HV1 := Lib.hid hV1
  rw [← HV1.out]
  clear hV1 k4 f4 b4w ho1 ho1' hb1
  rw [rounds_succ]
  have e1L : V1.cell? ⟨(w.heap.size + 1 + 1), 1, none⟩ = some (.int .i64 4) := by rw [bL1.cell]; rfl
  go_wp2_with (first
    | (go_at_call 49; refine (take_ok HS1.out hB1 (by omega) (k := 4) (by simp [sz]) (by omega)).mono ?_; rintro e w2 ⟨A2, c2, rfl, ho2, hb2⟩; rw [show i64v (bigN ((bs.drop 1).take 4)) = d1 bs from rfl]; have h4w : w.heap.size + 1 < V1.heap.size := b41.lt; have b4w := b41.below hb2 b41.lt; have k4 : w2.cell? ⟨(w.heap.size + 1), 1, none⟩ = some (.int .i64 0) := (by rw [b4w.cell]; rfl); have f4 := b4w.frozen 1))
  obtain ⟨V2, hV2⟩ : ∃ V, V = w2.setCell ⟨(w.heap.size + 1), 1, none⟩ (.int .i64 (d1 bs)) := ⟨_, rfl⟩
  have hvv : Below w.heap.size w V2 := by rw [hV2]; exact ((hw1.trans (hb2.mono hz1))).setCell (by show w.heap.size ≤ w.heap.size + 1; omega) _
  have hw2 := hvv
  have hz2 := hw2.size
  have b22 : Blk V2 w.heap.size 24 #[.int .i64 0, .int .i64 0, .int .i64 0, .slice none 0 0] := by rw [hV2]; exact (b21.below hb2 b21.lt).far (by show w.heap.size ≠ w.heap.size + 1; omega) _
  have b42 : Blk V2 (w.heap.size + 1) 87 #[.int .i64 (d0 bs), .int .i64 (d1 bs), .int .i64 0] := by rw [hV2]; simpa using b4w.set_ 1 (.int .i64 (d1 bs))
  have bL2 : Blk V2 (w.heap.size + 1 + 1) 3 #[.int .i64 1, .int .i64 4, .int .i64 1] := by rw [hV2]; exact (bL1.below hb2 bL1.lt).far (by show w.heap.size + 1 + 1 ≠ w.heap.size + 1; omega) _
  have ho2' : OwB V2 V1.heap.size A2 (n - 1 - 4) c2 (bs.drop 5) := by rw [hV2]; have := own_set ho2 h4w 1 (.int .i64 (d1 bs)); rwa [List.drop_drop] at this
  have HS2 := Lib.hid ho2'.sl
  have hB2 := Nat.le_refl V2.heap.size
  have HV2 := Lib.hid hV2
  rw [← HV2.out]
  clear hV2 k4 f4 b4w ho2 ho2' hb2
  rw [rounds_succ]
  have e2L : V2.cell? ⟨(w.heap.size + 1 + 1), 2, none⟩ = some (.int .i64 1) := by rw [bL2.cell]; rfl
  go_wp2_with (first
    | (go_at_call 49; refine (take_ok HS2.out hB2 (by omega) (k := 1) (by simp [sz]) (by omega)).mono ?_; rintro e w3 ⟨A3, c3, rfl, ho3, hb3⟩; rw [show i64v (bigN ((bs.drop 5).take 1)) = d2 bs from rfl]; have h4w : w.heap.size + 1 < V2.heap.size := b42.lt; have b4w := b42.below hb3 b42.lt; have k4 : w3.cell? ⟨(w.heap.size + 1), 2, none⟩ = some (.int .i64 0) := (by rw [b4w.cell]; rfl); have f4 := b4w.frozen 2))
  obtain ⟨V3, hV3⟩ : ∃ V, V = w3.setCell ⟨(w.heap.size + 1), 2, none⟩ (.int .i64 (d2 bs)) := ⟨_, rfl⟩
  have hvv : Below w.heap.size w V3 := by rw [hV3]; exact ((hw2.trans (hb3.mono hz2))).setCell (by show w.heap.size ≤ w.heap.size + 1; omega) _
  have hw3 := hvv
  have hz3 := hw3.size
  have b23 : Blk V3 w.heap.size 24 #[.int .i64 0, .int .i64 0, .int .i64 0, .slice none 0 0] := by rw [hV3]; exact (b22.below hb3 b22.lt).far (by show w.heap.size ≠ w.heap.size + 1; omega) _
  have b43 : Blk V3 (w.heap.size + 1) 87 #[.int .i64 (d0 bs), .int .i64 (d1 bs), .int .i64 (d2 bs)] := by rw [hV3]; simpa using b4w.set_ 2 (.int .i64 (d2 bs))
  have bL3 : Blk V3 (w.heap.size + 1 + 1) 3 #[.int .i64 1, .int .i64 4, .int .i64 1] := by rw [hV3]; exact (bL2.below hb3 bL2.lt).far (by show w.heap.size + 1 + 1 ≠ w.heap.size + 1; omega) _
  have ho3' : OwB V3 V2.heap.size A3 (n - 1 - 4 - 1) c3 (bs.drop 6) := by rw [hV3]; have := own_set ho3 h4w 2 (.int .i64 (d2 bs)); rwa [List.drop_drop] at this
  have HS3 := Lib.hid ho3'.sl
  have hB3 := Nat.le_refl V3.heap.size
  have HV3 := Lib.hid hV3
  rw [← HV3.out]
  clear hV3 k4 f4 b4w ho3 ho3' hb3
  rw [rounds_succ]
  have q0 : V3.cell? ⟨(w.heap.size + 1), 0, none⟩ = some (.int .i64 (d0 bs)) := by rw [b43.cell]; rfl
  have q1 : V3.cell? ⟨(w.heap.size + 1), 1, none⟩ = some (.int .i64 (d1 bs)) := by rw [b43.cell]; rfl
  have q2 : V3.cell? ⟨(w.heap.size + 1), 2, none⟩ = some (.int .i64 (d2 bs)) := by rw [b43.cell]; rfl
  have hg4 := b43.lt
  go_wp2_with (first
    | (go_at_call 50; refine (takerow_none HS3.out hrow).mono ?_; rintro e w4 ⟨rfl, dd, hd4⟩; have hb4 : Below V3.heap.size V3 w4 := (by rw [hd4]; exact below_drewN (Below.refl _ _) _); clear hd4; have hw4 := hw3.trans (hb4.mono hz3); have hz4 := hw4.size; have b44 := b43.below hb4 b43.lt; have b24 := b23.below hb4 b23.lt; have p0 : w4.cell? ⟨(w.heap.size + 1), 0, none⟩ = some (.int .i64 (d0 bs)) := (by rw [b44.cell]; rfl); have p1 : w4.cell? ⟨(w.heap.size + 1), 1, none⟩ = some (.int .i64 (d1 bs)) := (by rw [b44.cell]; rfl); have p2 : w4.cell? ⟨(w.heap.size + 1), 2, none⟩ = some (.int .i64 (d2 bs)) := (by rw [b44.cell]; rfl); have bn := Blk.new w4 24 #[.int .i64 0, .int .i64 0, .int .i64 0, .slice none 0 0])
    | ((with_reducible show wpList _ _ _ (Oper.mk (some 12) (Op.alloc _) _ _ _ _ :: _) _ _); refine wpList_alloc_agg rfl 24 rfl #[.int .i64 0, .int .i64 0, .int .i64 0, .slice none 0 0] zeroFr ?_)
    | ((with_reducible show wpList _ _ _ (Oper.mk none (Op.store 24 (.tmp 12) _) _ _ _ _ :: _) _ _); refine wpList_store_whole rfl 24 (.tmp 12) (.tmp 50) rfl w4.heap.size rfl [.int .i64 (d0 bs), .int .i64 (d1 bs), .int .i64 (d2 bs), .slice none 0 0] rfl aggFr rfl _ _ bn rfl (by simp [Value.oneCell']) ?_; intro v5 b5 gb sb; have hl5 : Below w4.heap.size w4 v5 := (below_alloc _ _).grown gb (by simp) (fun k hk => by cases hk; exact Nat.le_refl _); have hw5 := hw4.trans (hl5.mono hz4); have hz5 := hw5.size; have b25 := b24.below hl5 b24.lt; clear gb sb)
    | ((with_reducible show wpList _ _ _ (Oper.mk (some 52) (Op.load 24 _) _ _ _ _ :: _) _ _); refine wpList_load_whole rfl 24 (.tmp 12) rfl w4.heap.size rfl #[.int .i64 (d0 bs), .int .i64 (d1 bs), .int .i64 (d2 bs), .slice none 0 0] aggFr rfl _ b5 ?_)
    | (go_at_call 13; refine (encode_any (d0 bs) (d1 bs) (d2 bs) (SlB.nil _ 0 none) (Nat.zero_le _)).mono ?_; rintro e w6 ⟨A6, k6, c6, ev, rfl, hb6⟩; have hw6 := hw5.trans (hb6.mono hz5); have hz6 := hw6.size; have b26 := b25.below hb6 b25.lt; have b56 := b5.below hb6 b5.lt)
    | ((with_reducible show wpList _ _ _ (Oper.mk none (Op.store 24 _ _) _ _ _ _ :: _) _ _); refine wpList_store_whole rfl 24 (.tmp 2) (.tmp 67) rfl w.heap.size rfl [.int .i64 0, .int .i64 0, .int .i64 0, .slice none 0 0] rfl aggFr rfl _ _ b26 rfl (by simp [Value.oneCell']) ?_; intro wf bf gf sf))
  refine bodyPost_ret (results_cell_tmp rfl _ w.heap.size _ #[.int .i64 0, .int .i64 0, .int .i64 0, .slice none 0 0] aggFr rfl rfl bf) rfl ⟨rfl, ?_⟩
  exact (hw6).grown gf (hw6).size (fun k hk => by cases hk; exact Nat.le_refl _)

set_option maxHeartbeats 4000000 in
theorem decode_bad {w : World} {B : Nat} {A : Option Addr} {n c : Nat} {bs : List UInt8} (hb : SlB w B A n c bs) (hB : B ≤ w.heap.size) (hn : n ≤ 140737488280000) (h6 : 6 ≤ n) {m : Nat} (hrow : rowLen (bs.drop 6) = some m) (hok : ¬ okF (d0 bs) (d1 bs) (d2 bs) m) :
    Calls Try.prog 23 #[.slice A n c] w fun e w' => e = .returned (.tuple #[.agg #[.int .i64 0, .int .i64 0, .int .i64 0, .slice none 0 0], .iface 35 (.int .i64 10)]) ∧ Below w.heap.size w w' := by
  have hlen := hb.len
  have hcap := hb.le
  obtain ⟨V0, hV0⟩ : ∃ V0, V0 = ((w.alloc (.cells #[.int .i64 0, .int .i64 0, .int .i64 0, .slice none 0 0] 24)).alloc (.cells #[.int .i64 0, .int .i64 0, .int .i64 0] 87)).alloc (.cells #[.int .i64 1, .int .i64 4, .int .i64 1] 3) := ⟨_, rfl⟩
  have hw0 : Below w.heap.size w V0 := by rw [hV0]; exact (((Below.refl _ _).alloc (Nat.le_refl _) _).alloc (by simp) _).alloc (by simp; omega) _
  have hz0 := hw0.size
  have b20 : Blk V0 w.heap.size 24 #[.int .i64 0, .int .i64 0, .int .i64 0, .slice none 0 0] := by rw [hV0]; exact ((Blk.new w _ _).alloc _).alloc _
  have b40 : Blk V0 (w.heap.size + 1) 87 #[.int .i64 0, .int .i64 0, .int .i64 0] := by
    have := (Blk.new (w.alloc (.cells #[.int .i64 0, .int .i64 0, .int .i64 0, .slice none 0 0] 24)) 87 #[.int .i64 0, .int .i64 0, .int .i64 0]).alloc (.cells #[.int .i64 1, .int .i64 4, .int .i64 1] 3)
    rw [World.size_alloc] at this
    rw [hV0]; exact this
  have bL0 : Blk V0 (w.heap.size + 1 + 1) 3 #[.int .i64 1, .int .i64 4, .int .i64 1] := by
    have := Blk.new ((w.alloc (.cells #[.int .i64 0, .int .i64 0, .int .i64 0, .slice none 0 0] 24)).alloc (.cells #[.int .i64 0, .int .i64 0, .int .i64 0] 87)) 3 #[.int .i64 1, .int .i64 4, .int .i64 1]
    rw [World.size_alloc, World.size_alloc] at this
    rw [hV0]; exact this
  have s0 := hb.below (hw0.mono hB)
  have hB0 := Nat.le_trans hB hz0
  have HV0 := Lib.hid hV0
  have HS0 := Lib.hid s0
  clear hV0 s0 hb
  go_enter Try.func23, Try.ntmps23
  go_wp2_with (first
    | ((with_reducible show wpList _ _ _ (Oper.mk (some 2) (Op.alloc _) _ _ _ _ :: _) _ _); refine wpList_alloc_agg rfl 24 rfl #[.int .i64 0, .int .i64 0, .int .i64 0, .slice none 0 0] zeroFr ?_)
    | ((with_reducible show wpList _ _ _ (Oper.mk (some 4) (Op.alloc _) _ _ _ _ :: _) _ _); refine wpList_alloc_agg rfl 87 rfl #[.int .i64 0, .int .i64 0, .int .i64 0] zero33 ?_))
  rw [← HV0.out]
  refine wp_loop_rounds 4 ?_
  rw [rounds_succ]
  have e0L : V0.cell? ⟨(w.heap.size + 1 + 1), 0, none⟩ = some (.int .i64 1) := by rw [bL0.cell]; rfl
  go_wp2_with (first
    | (go_at_call 49; refine (take_ok HS0.out hB0 (by omega) (k := 1) (by simp [sz]) (by omega)).mono ?_; rintro e w1 ⟨A1, c1, rfl, ho1, hb1⟩; rw [show i64v (bigN (bs.take 1)) = d0 bs from rfl]; have h4w : w.heap.size + 1 < V0.heap.size := b40.lt; have b4w := b40.below hb1 b40.lt; have k4 : w1.cell? ⟨(w.heap.size + 1), 0, none⟩ = some (.int .i64 0) := (by rw [b4w.cell]; rfl); have f4 := b4w.frozen 0))
  obtain ⟨V1, hV1⟩ : ∃ V, V = w1.setCell ⟨(w.heap.size + 1), 0, none⟩ (.int .i64 (d0 bs)) := ⟨_, rfl⟩
  have hvv : Below w.heap.size w V1 := by rw [hV1]; exact ((hw0.trans (hb1.mono hz0))).setCell (by show w.heap.size ≤ w.heap.size + 1; omega) _
  have hw1 := hvv
  have hz1 := hw1.size
  have b21 : Blk V1 w.heap.size 24 #[.int .i64 0, .int .i64 0, .int .i64 0, .slice none 0 0] := by rw [hV1]; exact (b20.below hb1 b20.lt).far (by show w.heap.size ≠ w.heap.size + 1; omega) _
  have b41 : Blk V1 (w.heap.size + 1) 87 #[.int .i64 (d0 bs), .int .i64 0, .int .i64 0] := by rw [hV1]; simpa using b4w.set_ 0 (.int .i64 (d0 bs))
  have bL1 : Blk V1 (w.heap.size + 1 + 1) 3 #[.int .i64 1, .int .i64 4, .int .i64 1] := by rw [hV1]; exact (bL0.below hb1 bL0.lt).far (by show w.heap.size + 1 + 1 ≠ w.heap.size + 1; omega) _
  have ho1' : OwB V1 V0.heap.size A1 (n - 1) c1 (bs.drop 1) := by rw [hV1]; have := own_set ho1 h4w 0 (.int .i64 (d0 bs)); rwa [show (bs.drop 1) = bs.drop 1 from rfl] at this
  have HS1 := Lib.hid ho1'.sl
  have hB1 := Nat.le_refl V1.heap.size
  have HV1 := Lib.hid hV1
  rw [← HV1.out]
  clear hV1 k4 f4 b4w ho1 ho1' hb1
  rw [rounds_succ]
  have e1L : V1.cell? ⟨(w.heap.size + 1 + 1), 1, none⟩ = some (.int .i64 4) := by rw [bL1.cell]; rfl
  go_wp2_with (first
    | (go_at_call 49; refine (take_ok HS1.out hB1 (by omega) (k := 4) (by simp [sz]) (by omega)).mono ?_; rintro e w2 ⟨A2, c2, rfl, ho2, hb2⟩; rw [show i64v (bigN ((bs.drop 1).take 4)) = d1 bs from rfl]; have h4w : w.heap.size + 1 < V1.heap.size := b41.lt; have b4w := b41.below hb2 b41.lt; have k4 : w2.cell? ⟨(w.heap.size + 1), 1, none⟩ = some (.int .i64 0) := (by rw [b4w.cell]; rfl); have f4 := b4w.frozen 1))
  obtain ⟨V2, hV2⟩ : ∃ V, V = w2.setCell ⟨(w.heap.size + 1), 1, none⟩ (.int .i64 (d1 bs)) := ⟨_, rfl⟩
  have hvv : Below w.heap.size w V2 := by rw [hV2]; exact ((hw1.trans (hb2.mono hz1))).setCell (by show w.heap.size ≤ w.heap.size + 1; omega) _
  have hw2 := hvv
  have hz2 := hw2.size
  have b22 : Blk V2 w.heap.size 24 #[.int .i64 0, .int .i64 0, .int .i64 0, .slice none 0 0] := by rw [hV2]; exact (b21.below hb2 b21.lt).far (by show w.heap.size ≠ w.heap.size + 1; omega) _
  have b42 : Blk V2 (w.heap.size + 1) 87 #[.int .i64 (d0 bs), .int .i64 (d1 bs), .int .i64 0] := by rw [hV2]; simpa using b4w.set_ 1 (.int .i64 (d1 bs))
  have bL2 : Blk V2 (w.heap.size + 1 + 1) 3 #[.int .i64 1, .int .i64 4, .int .i64 1] := by rw [hV2]; exact (bL1.below hb2 bL1.lt).far (by show w.heap.size + 1 + 1 ≠ w.heap.size + 1; omega) _
  have ho2' : OwB V2 V1.heap.size A2 (n - 1 - 4) c2 (bs.drop 5) := by rw [hV2]; have := own_set ho2 h4w 1 (.int .i64 (d1 bs)); rwa [List.drop_drop] at this
  have HS2 := Lib.hid ho2'.sl
  have hB2 := Nat.le_refl V2.heap.size
  have HV2 := Lib.hid hV2
  rw [← HV2.out]
  clear hV2 k4 f4 b4w ho2 ho2' hb2
  rw [rounds_succ]
  have e2L : V2.cell? ⟨(w.heap.size + 1 + 1), 2, none⟩ = some (.int .i64 1) := by rw [bL2.cell]; rfl
  go_wp2_with (first
    | (go_at_call 49; refine (take_ok HS2.out hB2 (by omega) (k := 1) (by simp [sz]) (by omega)).mono ?_; rintro e w3 ⟨A3, c3, rfl, ho3, hb3⟩; rw [show i64v (bigN ((bs.drop 5).take 1)) = d2 bs from rfl]; have h4w : w.heap.size + 1 < V2.heap.size := b42.lt; have b4w := b42.below hb3 b42.lt; have k4 : w3.cell? ⟨(w.heap.size + 1), 2, none⟩ = some (.int .i64 0) := (by rw [b4w.cell]; rfl); have f4 := b4w.frozen 2))
  obtain ⟨V3, hV3⟩ : ∃ V, V = w3.setCell ⟨(w.heap.size + 1), 2, none⟩ (.int .i64 (d2 bs)) := ⟨_, rfl⟩
  have hvv : Below w.heap.size w V3 := by rw [hV3]; exact ((hw2.trans (hb3.mono hz2))).setCell (by show w.heap.size ≤ w.heap.size + 1; omega) _
  have hw3 := hvv
  have hz3 := hw3.size
  have b23 : Blk V3 w.heap.size 24 #[.int .i64 0, .int .i64 0, .int .i64 0, .slice none 0 0] := by rw [hV3]; exact (b22.below hb3 b22.lt).far (by show w.heap.size ≠ w.heap.size + 1; omega) _
  have b43 : Blk V3 (w.heap.size + 1) 87 #[.int .i64 (d0 bs), .int .i64 (d1 bs), .int .i64 (d2 bs)] := by rw [hV3]; simpa using b4w.set_ 2 (.int .i64 (d2 bs))
  have bL3 : Blk V3 (w.heap.size + 1 + 1) 3 #[.int .i64 1, .int .i64 4, .int .i64 1] := by rw [hV3]; exact (bL2.below hb3 bL2.lt).far (by show w.heap.size + 1 + 1 ≠ w.heap.size + 1; omega) _
  have ho3' : OwB V3 V2.heap.size A3 (n - 1 - 4 - 1) c3 (bs.drop 6) := by rw [hV3]; have := own_set ho3 h4w 2 (.int .i64 (d2 bs)); rwa [List.drop_drop] at this
  have HS3 := Lib.hid ho3'.sl
  have hB3 := Nat.le_refl V3.heap.size
  have HV3 := Lib.hid hV3
  rw [← HV3.out]
  clear hV3 k4 f4 b4w ho3 ho3' hb3
  rw [rounds_succ]
  have q0 : V3.cell? ⟨(w.heap.size + 1), 0, none⟩ = some (.int .i64 (d0 bs)) := by rw [b43.cell]; rfl
  have q1 : V3.cell? ⟨(w.heap.size + 1), 1, none⟩ = some (.int .i64 (d1 bs)) := by rw [b43.cell]; rfl
  have q2 : V3.cell? ⟨(w.heap.size + 1), 2, none⟩ = some (.int .i64 (d2 bs)) := by rw [b43.cell]; rfl
  have hg4 := b43.lt
  go_wp2_with (first
    | (go_at_call 50; refine (takerow_some HS3.out hB3 (by omega) hrow).mono ?_; rintro e w4 ⟨A4, c4, A5, c5, rfl, ho4, ho5, hf45, hb4⟩; have hw4 := hw3.trans (hb4.mono hz3); have hz4 := hw4.size; have b44 := b43.below hb4 b43.lt; have b24 := b23.below hb4 b23.lt; have p0 : w4.cell? ⟨(w.heap.size + 1), 0, none⟩ = some (.int .i64 (d0 bs)) := (by rw [b44.cell]; rfl); have p1 : w4.cell? ⟨(w.heap.size + 1), 1, none⟩ = some (.int .i64 (d1 bs)) := (by rw [b44.cell]; rfl); have p2 : w4.cell? ⟨(w.heap.size + 1), 2, none⟩ = some (.int .i64 (d2 bs)) := (by rw [b44.cell]; rfl); have bn := Blk.new w4 24 #[.int .i64 0, .int .i64 0, .int .i64 0, .slice none 0 0])
    | ((with_reducible show wpList _ _ _ (Oper.mk (some 12) (Op.alloc _) _ _ _ _ :: _) _ _); refine wpList_alloc_agg rfl 24 rfl #[.int .i64 0, .int .i64 0, .int .i64 0, .slice none 0 0] zeroFr ?_)
    | ((with_reducible show wpList _ _ _ (Oper.mk none (Op.store 24 (.tmp 12) _) _ _ _ _ :: _) _ _); refine wpList_store_whole rfl 24 (.tmp 12) (.tmp 50) rfl w4.heap.size rfl [.int .i64 (d0 bs), .int .i64 (d1 bs), .int .i64 (d2 bs), .slice A4 m c4] rfl aggFr rfl _ _ bn rfl (by simp [Value.oneCell']) ?_; intro v5 b5 gb sb; have hl5 : Below w4.heap.size w4 v5 := (below_alloc _ _).grown gb (by simp) (fun k hk => by cases hk; exact Nat.le_refl _); have hw5 := hw4.trans (hl5.mono hz4); have hz5 := hw5.size; have b25 := b24.below hl5 b24.lt; clear gb sb)
    | ((with_reducible show wpList _ _ _ (Oper.mk (some 52) (Op.load 24 _) _ _ _ _ :: _) _ _); refine wpList_load_whole rfl 24 (.tmp 12) rfl w4.heap.size rfl #[.int .i64 (d0 bs), .int .i64 (d1 bs), .int .i64 (d2 bs), .slice A4 m c4] aggFr rfl _ b5 ?_)
    | (go_at_call 13; refine (encode_bad (d0 bs) (d1 bs) (d2 bs) (OwB.sl (ho4.below hl5)) (Nat.le_refl _) hok).mono ?_; rintro e w6 ⟨rfl, hb6⟩; have hw6 := hw5.trans (hb6.mono hz5); have hz6 := hw6.size; have b26 := b25.below hb6 b25.lt; have b56 := b5.below hb6 b5.lt)
    | ((with_reducible show wpList _ _ _ (Oper.mk none (Op.store 24 _ _) _ _ _ _ :: _) _ _); refine wpList_store_whole rfl 24 (.tmp 2) (.tmp 67) rfl w.heap.size rfl [.int .i64 0, .int .i64 0, .int .i64 0, .slice none 0 0] rfl aggFr rfl _ _ b26 rfl (by simp [Value.oneCell']) ?_; intro wf bf gf sf))
  refine bodyPost_ret (results_cell_tmp rfl _ w.heap.size _ #[.int .i64 0, .int .i64 0, .int .i64 0, .slice none 0 0] aggFr rfl rfl bf) rfl ⟨rfl, ?_⟩
  exact (hw6).grown gf (hw6).size (fun k hk => by cases hk; exact Nat.le_refl _)

set_option maxHeartbeats 4000000 in
theorem decode_long {w : World} {B : Nat} {A : Option Addr} {n c : Nat} {bs : List UInt8} (hb : SlB w B A n c bs) (hB : B ≤ w.heap.size) (hn : n ≤ 140737488280000) (h6 : 6 ≤ n) {m : Nat} (hrow : rowLen (bs.drop 6) = some m) (hok : okF (d0 bs) (d1 bs) (d2 bs) m) (hlong : 8 + m < n) :
    Calls Try.prog 23 #[.slice A n c] w fun e w' => e = .returned (.tuple #[.agg #[.int .i64 0, .int .i64 0, .int .i64 0, .slice none 0 0], .iface 35 (.int .i64 10)]) ∧ Below w.heap.size w w' := by
  have hlg : (0 : Int) < ((n - 1 - 4 - 1 - (2 + m) : Nat) : Int) := by omega
  have hlen := hb.len
  have hcap := hb.le
  obtain ⟨V0, hV0⟩ : ∃ V0, V0 = ((w.alloc (.cells #[.int .i64 0, .int .i64 0, .int .i64 0, .slice none 0 0] 24)).alloc (.cells #[.int .i64 0, .int .i64 0, .int .i64 0] 87)).alloc (.cells #[.int .i64 1, .int .i64 4, .int .i64 1] 3) := ⟨_, rfl⟩
  have hw0 : Below w.heap.size w V0 := by rw [hV0]; exact (((Below.refl _ _).alloc (Nat.le_refl _) _).alloc (by simp) _).alloc (by simp; omega) _
  have hz0 := hw0.size
  have b20 : Blk V0 w.heap.size 24 #[.int .i64 0, .int .i64 0, .int .i64 0, .slice none 0 0] := by rw [hV0]; exact ((Blk.new w _ _).alloc _).alloc _
  have b40 : Blk V0 (w.heap.size + 1) 87 #[.int .i64 0, .int .i64 0, .int .i64 0] := by
    have := (Blk.new (w.alloc (.cells #[.int .i64 0, .int .i64 0, .int .i64 0, .slice none 0 0] 24)) 87 #[.int .i64 0, .int .i64 0, .int .i64 0]).alloc (.cells #[.int .i64 1, .int .i64 4, .int .i64 1] 3)
    rw [World.size_alloc] at this
    rw [hV0]; exact this
  have bL0 : Blk V0 (w.heap.size + 1 + 1) 3 #[.int .i64 1, .int .i64 4, .int .i64 1] := by
    have := Blk.new ((w.alloc (.cells #[.int .i64 0, .int .i64 0, .int .i64 0, .slice none 0 0] 24)).alloc (.cells #[.int .i64 0, .int .i64 0, .int .i64 0] 87)) 3 #[.int .i64 1, .int .i64 4, .int .i64 1]
    rw [World.size_alloc, World.size_alloc] at this
    rw [hV0]; exact this
  have s0 := hb.below (hw0.mono hB)
  have hB0 := Nat.le_trans hB hz0
  have HV0 := Lib.hid hV0
  have HS0 := Lib.hid s0
  clear hV0 s0 hb
  go_enter Try.func23, Try.ntmps23
  go_wp2_with (first
    | ((with_reducible show wpList _ _ _ (Oper.mk (some 2) (Op.alloc _) _ _ _ _ :: _) _ _); refine wpList_alloc_agg rfl 24 rfl #[.int .i64 0, .int .i64 0, .int .i64 0, .slice none 0 0] zeroFr ?_)
    | ((with_reducible show wpList _ _ _ (Oper.mk (some 4) (Op.alloc _) _ _ _ _ :: _) _ _); refine wpList_alloc_agg rfl 87 rfl #[.int .i64 0, .int .i64 0, .int .i64 0] zero33 ?_))
  rw [← HV0.out]
  refine wp_loop_rounds 4 ?_
  rw [rounds_succ]
  have e0L : V0.cell? ⟨(w.heap.size + 1 + 1), 0, none⟩ = some (.int .i64 1) := by rw [bL0.cell]; rfl
  go_wp2_with (first
    | (go_at_call 49; refine (take_ok HS0.out hB0 (by omega) (k := 1) (by simp [sz]) (by omega)).mono ?_; rintro e w1 ⟨A1, c1, rfl, ho1, hb1⟩; rw [show i64v (bigN (bs.take 1)) = d0 bs from rfl]; have h4w : w.heap.size + 1 < V0.heap.size := b40.lt; have b4w := b40.below hb1 b40.lt; have k4 : w1.cell? ⟨(w.heap.size + 1), 0, none⟩ = some (.int .i64 0) := (by rw [b4w.cell]; rfl); have f4 := b4w.frozen 0))
  obtain ⟨V1, hV1⟩ : ∃ V, V = w1.setCell ⟨(w.heap.size + 1), 0, none⟩ (.int .i64 (d0 bs)) := ⟨_, rfl⟩
  have hvv : Below w.heap.size w V1 := by rw [hV1]; exact ((hw0.trans (hb1.mono hz0))).setCell (by show w.heap.size ≤ w.heap.size + 1; omega) _
  have hw1 := hvv
  have hz1 := hw1.size
  have b21 : Blk V1 w.heap.size 24 #[.int .i64 0, .int .i64 0, .int .i64 0, .slice none 0 0] := by rw [hV1]; exact (b20.below hb1 b20.lt).far (by show w.heap.size ≠ w.heap.size + 1; omega) _
  have b41 : Blk V1 (w.heap.size + 1) 87 #[.int .i64 (d0 bs), .int .i64 0, .int .i64 0] := by rw [hV1]; simpa using b4w.set_ 0 (.int .i64 (d0 bs))
  have bL1 : Blk V1 (w.heap.size + 1 + 1) 3 #[.int .i64 1, .int .i64 4, .int .i64 1] := by rw [hV1]; exact (bL0.below hb1 bL0.lt).far (by show w.heap.size + 1 + 1 ≠ w.heap.size + 1; omega) _
  have ho1' : OwB V1 V0.heap.size A1 (n - 1) c1 (bs.drop 1) := by rw [hV1]; have := own_set ho1 h4w 0 (.int .i64 (d0 bs)); rwa [show (bs.drop 1) = bs.drop 1 from rfl] at this
  have HS1 := Lib.hid ho1'.sl
  have hB1 := Nat.le_refl V1.heap.size
  have HV1 := Lib.hid hV1
  rw [← HV1.out]
  clear hV1 k4 f4 b4w ho1 ho1' hb1
  rw [rounds_succ]
  have e1L : V1.cell? ⟨(w.heap.size + 1 + 1), 1, none⟩ = some (.int .i64 4) := by rw [bL1.cell]; rfl
  go_wp2_with (first
    | (go_at_call 49; refine (take_ok HS1.out hB1 (by omega) (k := 4) (by simp [sz]) (by omega)).mono ?_; rintro e w2 ⟨A2, c2, rfl, ho2, hb2⟩; rw [show i64v (bigN ((bs.drop 1).take 4)) = d1 bs from rfl]; have h4w : w.heap.size + 1 < V1.heap.size := b41.lt; have b4w := b41.below hb2 b41.lt; have k4 : w2.cell? ⟨(w.heap.size + 1), 1, none⟩ = some (.int .i64 0) := (by rw [b4w.cell]; rfl); have f4 := b4w.frozen 1))
  obtain ⟨V2, hV2⟩ : ∃ V, V = w2.setCell ⟨(w.heap.size + 1), 1, none⟩ (.int .i64 (d1 bs)) := ⟨_, rfl⟩
  have hvv : Below w.heap.size w V2 := by rw [hV2]; exact ((hw1.trans (hb2.mono hz1))).setCell (by show w.heap.size ≤ w.heap.size + 1; omega) _
  have hw2 := hvv
  have hz2 := hw2.size
  have b22 : Blk V2 w.heap.size 24 #[.int .i64 0, .int .i64 0, .int .i64 0, .slice none 0 0] := by rw [hV2]; exact (b21.below hb2 b21.lt).far (by show w.heap.size ≠ w.heap.size + 1; omega) _
  have b42 : Blk V2 (w.heap.size + 1) 87 #[.int .i64 (d0 bs), .int .i64 (d1 bs), .int .i64 0] := by rw [hV2]; simpa using b4w.set_ 1 (.int .i64 (d1 bs))
  have bL2 : Blk V2 (w.heap.size + 1 + 1) 3 #[.int .i64 1, .int .i64 4, .int .i64 1] := by rw [hV2]; exact (bL1.below hb2 bL1.lt).far (by show w.heap.size + 1 + 1 ≠ w.heap.size + 1; omega) _
  have ho2' : OwB V2 V1.heap.size A2 (n - 1 - 4) c2 (bs.drop 5) := by rw [hV2]; have := own_set ho2 h4w 1 (.int .i64 (d1 bs)); rwa [List.drop_drop] at this
  have HS2 := Lib.hid ho2'.sl
  have hB2 := Nat.le_refl V2.heap.size
  have HV2 := Lib.hid hV2
  rw [← HV2.out]
  clear hV2 k4 f4 b4w ho2 ho2' hb2
  rw [rounds_succ]
  have e2L : V2.cell? ⟨(w.heap.size + 1 + 1), 2, none⟩ = some (.int .i64 1) := by rw [bL2.cell]; rfl
  go_wp2_with (first
    | (go_at_call 49; refine (take_ok HS2.out hB2 (by omega) (k := 1) (by simp [sz]) (by omega)).mono ?_; rintro e w3 ⟨A3, c3, rfl, ho3, hb3⟩; rw [show i64v (bigN ((bs.drop 5).take 1)) = d2 bs from rfl]; have h4w : w.heap.size + 1 < V2.heap.size := b42.lt; have b4w := b42.below hb3 b42.lt; have k4 : w3.cell? ⟨(w.heap.size + 1), 2, none⟩ = some (.int .i64 0) := (by rw [b4w.cell]; rfl); have f4 := b4w.frozen 2))
  obtain ⟨V3, hV3⟩ : ∃ V, V = w3.setCell ⟨(w.heap.size + 1), 2, none⟩ (.int .i64 (d2 bs)) := ⟨_, rfl⟩
  have hvv : Below w.heap.size w V3 := by rw [hV3]; exact ((hw2.trans (hb3.mono hz2))).setCell (by show w.heap.size ≤ w.heap.size + 1; omega) _
  have hw3 := hvv
  have hz3 := hw3.size
  have b23 : Blk V3 w.heap.size 24 #[.int .i64 0, .int .i64 0, .int .i64 0, .slice none 0 0] := by rw [hV3]; exact (b22.below hb3 b22.lt).far (by show w.heap.size ≠ w.heap.size + 1; omega) _
  have b43 : Blk V3 (w.heap.size + 1) 87 #[.int .i64 (d0 bs), .int .i64 (d1 bs), .int .i64 (d2 bs)] := by rw [hV3]; simpa using b4w.set_ 2 (.int .i64 (d2 bs))
  have bL3 : Blk V3 (w.heap.size + 1 + 1) 3 #[.int .i64 1, .int .i64 4, .int .i64 1] := by rw [hV3]; exact (bL2.below hb3 bL2.lt).far (by show w.heap.size + 1 + 1 ≠ w.heap.size + 1; omega) _
  have ho3' : OwB V3 V2.heap.size A3 (n - 1 - 4 - 1) c3 (bs.drop 6) := by rw [hV3]; have := own_set ho3 h4w 2 (.int .i64 (d2 bs)); rwa [List.drop_drop] at this
  have HS3 := Lib.hid ho3'.sl
  have hB3 := Nat.le_refl V3.heap.size
  have HV3 := Lib.hid hV3
  rw [← HV3.out]
  clear hV3 k4 f4 b4w ho3 ho3' hb3
  rw [rounds_succ]
  have q0 : V3.cell? ⟨(w.heap.size + 1), 0, none⟩ = some (.int .i64 (d0 bs)) := by rw [b43.cell]; rfl
  have q1 : V3.cell? ⟨(w.heap.size + 1), 1, none⟩ = some (.int .i64 (d1 bs)) := by rw [b43.cell]; rfl
  have q2 : V3.cell? ⟨(w.heap.size + 1), 2, none⟩ = some (.int .i64 (d2 bs)) := by rw [b43.cell]; rfl
  have hg4 := b43.lt
  go_wp2_with (first
    | (go_at_call 50; refine (takerow_some HS3.out hB3 (by omega) hrow).mono ?_; rintro e w4 ⟨A4, c4, A5, c5, rfl, ho4, ho5, hf45, hb4⟩; have hw4 := hw3.trans (hb4.mono hz3); have hz4 := hw4.size; have b44 := b43.below hb4 b43.lt; have b24 := b23.below hb4 b23.lt; have p0 : w4.cell? ⟨(w.heap.size + 1), 0, none⟩ = some (.int .i64 (d0 bs)) := (by rw [b44.cell]; rfl); have p1 : w4.cell? ⟨(w.heap.size + 1), 1, none⟩ = some (.int .i64 (d1 bs)) := (by rw [b44.cell]; rfl); have p2 : w4.cell? ⟨(w.heap.size + 1), 2, none⟩ = some (.int .i64 (d2 bs)) := (by rw [b44.cell]; rfl); have bn := Blk.new w4 24 #[.int .i64 0, .int .i64 0, .int .i64 0, .slice none 0 0])
    | ((with_reducible show wpList _ _ _ (Oper.mk (some 12) (Op.alloc _) _ _ _ _ :: _) _ _); refine wpList_alloc_agg rfl 24 rfl #[.int .i64 0, .int .i64 0, .int .i64 0, .slice none 0 0] zeroFr ?_)
    | ((with_reducible show wpList _ _ _ (Oper.mk none (Op.store 24 (.tmp 12) _) _ _ _ _ :: _) _ _); refine wpList_store_whole rfl 24 (.tmp 12) (.tmp 50) rfl w4.heap.size rfl [.int .i64 (d0 bs), .int .i64 (d1 bs), .int .i64 (d2 bs), .slice A4 m c4] rfl aggFr rfl _ _ bn rfl (by simp [Value.oneCell']) ?_; intro v5 b5 gb sb; have hl5 : Below w4.heap.size w4 v5 := (below_alloc _ _).grown gb (by simp) (fun k hk => by cases hk; exact Nat.le_refl _); have hw5 := hw4.trans (hl5.mono hz4); have hz5 := hw5.size; have b25 := b24.below hl5 b24.lt; clear gb sb)
    | ((with_reducible show wpList _ _ _ (Oper.mk (some 52) (Op.load 24 _) _ _ _ _ :: _) _ _); refine wpList_load_whole rfl 24 (.tmp 12) rfl w4.heap.size rfl #[.int .i64 (d0 bs), .int .i64 (d1 bs), .int .i64 (d2 bs), .slice A4 m c4] aggFr rfl _ b5 ?_)
    | (go_at_call 13; refine (encode_ok (d0 bs) (d1 bs) (d2 bs) (OwB.sl (ho4.below hl5)) (Nat.le_refl _) hok).mono ?_; rintro e w6 ⟨A6, c6, rfl, ho6, hb6⟩; have hw6 := hw5.trans (hb6.mono hz5); have hz6 := hw6.size; have b26 := b25.below hb6 b25.lt; have b56 := b5.below hb6 b5.lt)
    | ((with_reducible show wpList _ _ _ (Oper.mk none (Op.store 24 _ _) _ _ _ _ :: _) _ _); refine wpList_store_whole rfl 24 (.tmp 2) (.tmp 67) rfl w.heap.size rfl [.int .i64 0, .int .i64 0, .int .i64 0, .slice none 0 0] rfl aggFr rfl _ _ b26 rfl (by simp [Value.oneCell']) ?_; intro wf bf gf sf))
  refine bodyPost_ret (results_cell_tmp rfl _ w.heap.size _ #[.int .i64 0, .int .i64 0, .int .i64 0, .slice none 0 0] aggFr rfl rfl bf) rfl ⟨rfl, ?_⟩
  exact (hw6).grown gf (hw6).size (fun k hk => by cases hk; exact Nat.le_refl _)

set_option maxHeartbeats 4000000 in
theorem decode_ok {w : World} {B : Nat} {A : Option Addr} {n c : Nat} {bs : List UInt8} (hb : SlB w B A n c bs) (hB : B ≤ w.heap.size) (hn : n ≤ 140737488280000) (h6 : 6 ≤ n) {m : Nat} (hrow : rowLen (bs.drop 6) = some m) (hok : okF (d0 bs) (d1 bs) (d2 bs) m) (hm : 8 + m = n) :
    Calls Try.prog 23 #[.slice A n c] w fun e w' => ∃ A' c', e = .returned (.tuple #[.agg #[.int .i64 (d0 bs), .int .i64 (d1 bs), .int .i64 (d2 bs), .slice A' m c'], .nilIface]) ∧ OwB w' w.heap.size A' m c' (bs.drop 8) ∧ Below w.heap.size w w' := by
  have hlg : ¬ (0 : Int) < ((n - 1 - 4 - 1 - (2 + m) : Nat) : Int) := by omega
  have hlen := hb.len
  have hcap := hb.le
  obtain ⟨V0, hV0⟩ : ∃ V0, V0 = ((w.alloc (.cells #[.int .i64 0, .int .i64 0, .int .i64 0, .slice none 0 0] 24)).alloc (.cells #[.int .i64 0, .int .i64 0, .int .i64 0] 87)).alloc (.cells #[.int .i64 1, .int .i64 4, .int .i64 1] 3) := ⟨_, rfl⟩
  have hw0 : Below w.heap.size w V0 := by rw [hV0]; exact (((Below.refl _ _).alloc (Nat.le_refl _) _).alloc (by simp) _).alloc (by simp; omega) _
  have hz0 := hw0.size
  have b20 : Blk V0 w.heap.size 24 #[.int .i64 0, .int .i64 0, .int .i64 0, .slice none 0 0] := by rw [hV0]; exact ((Blk.new w _ _).alloc _).alloc _
  have b40 : Blk V0 (w.heap.size + 1) 87 #[.int .i64 0, .int .i64 0, .int .i64 0] := by
    have := (Blk.new (w.alloc (.cells #[.int .i64 0, .int .i64 0, .int .i64 0, .slice none 0 0] 24)) 87 #[.int .i64 0, .int .i64 0, .int .i64 0]).alloc (.cells #[.int .i64 1, .int .i64 4, .int .i64 1] 3)
    rw [World.size_alloc] at this
    rw [hV0]; exact this
  have bL0 : Blk V0 (w.heap.size + 1 + 1) 3 #[.int .i64 1, .int .i64 4, .int .i64 1] := by
    have := Blk.new ((w.alloc (.cells #[.int .i64 0, .int .i64 0, .int .i64 0, .slice none 0 0] 24)).alloc (.cells #[.int .i64 0, .int .i64 0, .int .i64 0] 87)) 3 #[.int .i64 1, .int .i64 4, .int .i64 1]
    rw [World.size_alloc, World.size_alloc] at this
    rw [hV0]; exact this
  have s0 := hb.below (hw0.mono hB)
  have hB0 := Nat.le_trans hB hz0
  have HV0 := Lib.hid hV0
  have HS0 := Lib.hid s0
  clear hV0 s0 hb
  go_enter Try.func23, Try.ntmps23
  go_wp2_with (first
    | ((with_reducible show wpList _ _ _ (Oper.mk (some 2) (Op.alloc _) _ _ _ _ :: _) _ _); refine wpList_alloc_agg rfl 24 rfl #[.int .i64 0, .int .i64 0, .int .i64 0, .slice none 0 0] zeroFr ?_)
    | ((with_reducible show wpList _ _ _ (Oper.mk (some 4) (Op.alloc _) _ _ _ _ :: _) _ _); refine wpList_alloc_agg rfl 87 rfl #[.int .i64 0, .int .i64 0, .int .i64 0] zero33 ?_))
  rw [← HV0.out]
  refine wp_loop_rounds 4 ?_
  rw [rounds_succ]
  have e0L : V0.cell? ⟨(w.heap.size + 1 + 1), 0, none⟩ = some (.int .i64 1) := by rw [bL0.cell]; rfl
  go_wp2_with (first
    | (go_at_call 49; refine (take_ok HS0.out hB0 (by omega) (k := 1) (by simp [sz]) (by omega)).mono ?_; rintro e w1 ⟨A1, c1, rfl, ho1, hb1⟩; rw [show i64v (bigN (bs.take 1)) = d0 bs from rfl]; have h4w : w.heap.size + 1 < V0.heap.size := b40.lt; have b4w := b40.below hb1 b40.lt; have k4 : w1.cell? ⟨(w.heap.size + 1), 0, none⟩ = some (.int .i64 0) := (by rw [b4w.cell]; rfl); have f4 := b4w.frozen 0))
  obtain ⟨V1, hV1⟩ : ∃ V, V = w1.setCell ⟨(w.heap.size + 1), 0, none⟩ (.int .i64 (d0 bs)) := ⟨_, rfl⟩
  have hvv : Below w.heap.size w V1 := by rw [hV1]; exact ((hw0.trans (hb1.mono hz0))).setCell (by show w.heap.size ≤ w.heap.size + 1; omega) _
  have hw1 := hvv
  have hz1 := hw1.size
  have b21 : Blk V1 w.heap.size 24 #[.int .i64 0, .int .i64 0, .int .i64 0, .slice none 0 0] := by rw [hV1]; exact (b20.below hb1 b20.lt).far (by show w.heap.size ≠ w.heap.size + 1; omega) _
  have b41 : Blk V1 (w.heap.size + 1) 87 #[.int .i64 (d0 bs), .int .i64 0, .int .i64 0] := by rw [hV1]; simpa using b4w.set_ 0 (.int .i64 (d0 bs))
  have bL1 : Blk V1 (w.heap.size + 1 + 1) 3 #[.int .i64 1, .int .i64 4, .int .i64 1] := by rw [hV1]; exact (bL0.below hb1 bL0.lt).far (by show w.heap.size + 1 + 1 ≠ w.heap.size + 1; omega) _
  have ho1' : OwB V1 V0.heap.size A1 (n - 1) c1 (bs.drop 1) := by rw [hV1]; have := own_set ho1 h4w 0 (.int .i64 (d0 bs)); rwa [show (bs.drop 1) = bs.drop 1 from rfl] at this
  have HS1 := Lib.hid ho1'.sl
  have hB1 := Nat.le_refl V1.heap.size
  have HV1 := Lib.hid hV1
  rw [← HV1.out]
  clear hV1 k4 f4 b4w ho1 ho1' hb1
  rw [rounds_succ]
  have e1L : V1.cell? ⟨(w.heap.size + 1 + 1), 1, none⟩ = some (.int .i64 4) := by rw [bL1.cell]; rfl
  go_wp2_with (first
    | (go_at_call 49; refine (take_ok HS1.out hB1 (by omega) (k := 4) (by simp [sz]) (by omega)).mono ?_; rintro e w2 ⟨A2, c2, rfl, ho2, hb2⟩; rw [show i64v (bigN ((bs.drop 1).take 4)) = d1 bs from rfl]; have h4w : w.heap.size + 1 < V1.heap.size := b41.lt; have b4w := b41.below hb2 b41.lt; have k4 : w2.cell? ⟨(w.heap.size + 1), 1, none⟩ = some (.int .i64 0) := (by rw [b4w.cell]; rfl); have f4 := b4w.frozen 1))
  obtain ⟨V2, hV2⟩ : ∃ V, V = w2.setCell ⟨(w.heap.size + 1), 1, none⟩ (.int .i64 (d1 bs)) := ⟨_, rfl⟩
  have hvv : Below w.heap.size w V2 := by rw [hV2]; exact ((hw1.trans (hb2.mono hz1))).setCell (by show w.heap.size ≤ w.heap.size + 1; omega) _
  have hw2 := hvv
  have hz2 := hw2.size
  have b22 : Blk V2 w.heap.size 24 #[.int .i64 0, .int .i64 0, .int .i64 0, .slice none 0 0] := by rw [hV2]; exact (b21.below hb2 b21.lt).far (by show w.heap.size ≠ w.heap.size + 1; omega) _
  have b42 : Blk V2 (w.heap.size + 1) 87 #[.int .i64 (d0 bs), .int .i64 (d1 bs), .int .i64 0] := by rw [hV2]; simpa using b4w.set_ 1 (.int .i64 (d1 bs))
  have bL2 : Blk V2 (w.heap.size + 1 + 1) 3 #[.int .i64 1, .int .i64 4, .int .i64 1] := by rw [hV2]; exact (bL1.below hb2 bL1.lt).far (by show w.heap.size + 1 + 1 ≠ w.heap.size + 1; omega) _
  have ho2' : OwB V2 V1.heap.size A2 (n - 1 - 4) c2 (bs.drop 5) := by rw [hV2]; have := own_set ho2 h4w 1 (.int .i64 (d1 bs)); rwa [List.drop_drop] at this
  have HS2 := Lib.hid ho2'.sl
  have hB2 := Nat.le_refl V2.heap.size
  have HV2 := Lib.hid hV2
  rw [← HV2.out]
  clear hV2 k4 f4 b4w ho2 ho2' hb2
  rw [rounds_succ]
  have e2L : V2.cell? ⟨(w.heap.size + 1 + 1), 2, none⟩ = some (.int .i64 1) := by rw [bL2.cell]; rfl
  go_wp2_with (first
    | (go_at_call 49; refine (take_ok HS2.out hB2 (by omega) (k := 1) (by simp [sz]) (by omega)).mono ?_; rintro e w3 ⟨A3, c3, rfl, ho3, hb3⟩; rw [show i64v (bigN ((bs.drop 5).take 1)) = d2 bs from rfl]; have h4w : w.heap.size + 1 < V2.heap.size := b42.lt; have b4w := b42.below hb3 b42.lt; have k4 : w3.cell? ⟨(w.heap.size + 1), 2, none⟩ = some (.int .i64 0) := (by rw [b4w.cell]; rfl); have f4 := b4w.frozen 2))
  obtain ⟨V3, hV3⟩ : ∃ V, V = w3.setCell ⟨(w.heap.size + 1), 2, none⟩ (.int .i64 (d2 bs)) := ⟨_, rfl⟩
  have hvv : Below w.heap.size w V3 := by rw [hV3]; exact ((hw2.trans (hb3.mono hz2))).setCell (by show w.heap.size ≤ w.heap.size + 1; omega) _
  have hw3 := hvv
  have hz3 := hw3.size
  have b23 : Blk V3 w.heap.size 24 #[.int .i64 0, .int .i64 0, .int .i64 0, .slice none 0 0] := by rw [hV3]; exact (b22.below hb3 b22.lt).far (by show w.heap.size ≠ w.heap.size + 1; omega) _
  have b43 : Blk V3 (w.heap.size + 1) 87 #[.int .i64 (d0 bs), .int .i64 (d1 bs), .int .i64 (d2 bs)] := by rw [hV3]; simpa using b4w.set_ 2 (.int .i64 (d2 bs))
  have bL3 : Blk V3 (w.heap.size + 1 + 1) 3 #[.int .i64 1, .int .i64 4, .int .i64 1] := by rw [hV3]; exact (bL2.below hb3 bL2.lt).far (by show w.heap.size + 1 + 1 ≠ w.heap.size + 1; omega) _
  have ho3' : OwB V3 V2.heap.size A3 (n - 1 - 4 - 1) c3 (bs.drop 6) := by rw [hV3]; have := own_set ho3 h4w 2 (.int .i64 (d2 bs)); rwa [List.drop_drop] at this
  have HS3 := Lib.hid ho3'.sl
  have hB3 := Nat.le_refl V3.heap.size
  have HV3 := Lib.hid hV3
  rw [← HV3.out]
  clear hV3 k4 f4 b4w ho3 ho3' hb3
  rw [rounds_succ]
  have q0 : V3.cell? ⟨(w.heap.size + 1), 0, none⟩ = some (.int .i64 (d0 bs)) := by rw [b43.cell]; rfl
  have q1 : V3.cell? ⟨(w.heap.size + 1), 1, none⟩ = some (.int .i64 (d1 bs)) := by rw [b43.cell]; rfl
  have q2 : V3.cell? ⟨(w.heap.size + 1), 2, none⟩ = some (.int .i64 (d2 bs)) := by rw [b43.cell]; rfl
  have hg4 := b43.lt
  go_wp2_with (first
    | (go_at_call 50; refine (takerow_some HS3.out hB3 (by omega) hrow).mono ?_; rintro e w4 ⟨A4, c4, A5, c5, rfl, ho4, ho5, hf45, hb4⟩; have hw4 := hw3.trans (hb4.mono hz3); have hz4 := hw4.size; have b44 := b43.below hb4 b43.lt; have b24 := b23.below hb4 b23.lt; have p0 : w4.cell? ⟨(w.heap.size + 1), 0, none⟩ = some (.int .i64 (d0 bs)) := (by rw [b44.cell]; rfl); have p1 : w4.cell? ⟨(w.heap.size + 1), 1, none⟩ = some (.int .i64 (d1 bs)) := (by rw [b44.cell]; rfl); have p2 : w4.cell? ⟨(w.heap.size + 1), 2, none⟩ = some (.int .i64 (d2 bs)) := (by rw [b44.cell]; rfl); have bn := Blk.new w4 24 #[.int .i64 0, .int .i64 0, .int .i64 0, .slice none 0 0])
    | ((with_reducible show wpList _ _ _ (Oper.mk (some 12) (Op.alloc _) _ _ _ _ :: _) _ _); refine wpList_alloc_agg rfl 24 rfl #[.int .i64 0, .int .i64 0, .int .i64 0, .slice none 0 0] zeroFr ?_)
    | ((with_reducible show wpList _ _ _ (Oper.mk none (Op.store 24 (.tmp 12) _) _ _ _ _ :: _) _ _); refine wpList_store_whole rfl 24 (.tmp 12) (.tmp 50) rfl w4.heap.size rfl [.int .i64 (d0 bs), .int .i64 (d1 bs), .int .i64 (d2 bs), .slice A4 m c4] rfl aggFr rfl _ _ bn rfl (by simp [Value.oneCell']) ?_; intro v5 b5 gb sb; have hl5 : Below w4.heap.size w4 v5 := (below_alloc _ _).grown gb (by simp) (fun k hk => by cases hk; exact Nat.le_refl _); have hw5 := hw4.trans (hl5.mono hz4); have hz5 := hw5.size; have b25 := b24.below hl5 b24.lt; clear gb sb)
    | ((with_reducible show wpList _ _ _ (Oper.mk (some 52) (Op.load 24 _) _ _ _ _ :: _) _ _); refine wpList_load_whole rfl 24 (.tmp 12) rfl w4.heap.size rfl #[.int .i64 (d0 bs), .int .i64 (d1 bs), .int .i64 (d2 bs), .slice A4 m c4] aggFr rfl _ b5 ?_)
    | (go_at_call 13; refine (encode_ok (d0 bs) (d1 bs) (d2 bs) (OwB.sl (ho4.below hl5)) (Nat.le_refl _) hok).mono ?_; rintro e w6 ⟨A6, c6, rfl, ho6, hb6⟩; have hw6 := hw5.trans (hb6.mono hz5); have hz6 := hw6.size; have b26 := b25.below hb6 b25.lt; have b56 := b5.below hb6 b5.lt)
    | ((with_reducible show wpList _ _ _ (Oper.mk (some 69) (Op.load 24 _) _ _ _ _ :: _) _ _); refine wpList_load_whole rfl 24 (.tmp 12) rfl w4.heap.size rfl #[.int .i64 (d0 bs), .int .i64 (d1 bs), .int .i64 (d2 bs), .slice A4 m c4] aggFr rfl _ b56 ?_)
    | ((with_reducible show wpList _ _ _ (Oper.mk none (Op.store 24 _ _) _ _ _ _ :: _) _ _); refine wpList_store_whole rfl 24 (.tmp 2) (.tmp 69) rfl w.heap.size rfl [.int .i64 (d0 bs), .int .i64 (d1 bs), .int .i64 (d2 bs), .slice A4 m c4] rfl aggFr rfl _ _ b26 rfl (by simp [Value.oneCell']) ?_; intro wf bf gf sf))
  have hcell := own_grown (g := w.heap.size) ((ho4.below hl5).below hb6) (Nat.lt_of_lt_of_le b23.lt (Nat.le_refl _)) gf
  have hfin := Row.base_le hcell (b' := w.heap.size) hz3
  refine bodyPost_ret (results_cell_tmp rfl _ w.heap.size _ #[.int .i64 (d0 bs), .int .i64 (d1 bs), .int .i64 (d2 bs), .slice A4 m c4] aggFr rfl rfl bf) rfl ⟨A4, c4, rfl, ?_, ?_⟩
  · have e8 : ((bs.drop 6).drop 2).take m = bs.drop 8 := by rw [List.drop_drop]; exact List.take_of_length_le (by rw [List.length_drop]; omega)
    rw [← e8]; exact hfin
  · exact hw6.grown gf hz6 (fun k hk => by cases hk; exact Nat.le_refl _)

end Go.Proofs.Ytjjpifppdjpcnaa
