/-
  DigestTake: what eight words become with any schedule.
-/
import Derived.Test.YtbphoilfiahnpaaRefTake
import Derived.Test.YtbphoilfiahnpaaLater
import Derived.Test.YtbphoilfiahnpaaOpen
namespace Go.Proofs.Ytbphoilfiahnpaa.digestTake
open Go.RowKit
set_option linter.unusedVariables false
set_option maxRecDepth 100000

theorem results_cell_two {P : Program} {w : World} {n m : Nat} {fn : Func} {p q : Tmp} {ty ty2 : TypeId} (hr : fn.results = #[.cell p ty, .cell q ty2]) (tmps : Array Value) (g g2 : Nat) (tb tb2 : TypeId) (cs cs2 : Array Value) (hT : AggT P ty n) (hn : cs.size = n) (hT2 : AggT P ty2 m) (hm : cs2.size = m)
    (hp : tmps.getD p undef = .pointer (some ⟨g, 0, none⟩)) (hq : tmps.getD q undef = .pointer (some ⟨g2, 0, none⟩)) (hb : Blk w g tb cs) (hb2 : Blk w g2 tb2 cs2) : (results fn tmps).run P w = .ok (.tuple #[.agg cs, .agg cs2]) w := by
  have hl := run_loadVar_agg (P := P) (w := w) g 0 cs (hn ▸ hT) (fun j v hv => by rw [Nat.zero_add, hb.cell]; exact hv)
  have hl2 := run_loadVar_agg (P := P) (w := w) g2 0 cs2 (hm ▸ hT2) (fun j v hv => by rw [Nat.zero_add, hb2.cell]; exact hv)
  have hp' : tmps[p]?.getD undef = .pointer (some ⟨g, 0, none⟩) := by simpa using hp
  have hq' : tmps[q]?.getD undef = .pointer (some ⟨g2, 0, none⟩) := by simpa using hq
  simp [results, hr, hp', hq', asAddr, hl, hl2]

set_option maxHeartbeats 400000 in
theorem table_c (w : World) : Calls Try.prog 21 #[] w fun e w' => e = .returned (.tuple #[.agg (arr32 K64), .agg (arr32 H8)]) ∧ Below w.heap.size w w' := by
  have b1 := (Blk.new w 24 (arr32 (z32 64))).alloc (.cells (arr32 (z32 8)) 26)
  have b2 := Blk.new (w.alloc (.cells (arr32 (z32 64)) 24)) 26 (arr32 (z32 8))
  rw [World.size_alloc] at b2
  go_enter Try.func21, Try.ntmps21
  go_wp2_with (first
    | ((with_reducible show wpList _ _ _ (Oper.mk _ (Op.alloc 24) _ _ _ _ :: _) _ _); refine wpList_alloc_agg rfl 24 rfl (arr32 (z32 64)) zero24 ?_; (try rw [World.size_alloc]))
    | ((with_reducible show wpList _ _ _ (Oper.mk _ (Op.alloc 26) _ _ _ _ :: _) _ _); refine wpList_alloc_agg rfl 26 rfl (arr32 (z32 8)) zero26 ?_; (try rw [World.size_alloc]))
    | ((with_reducible show wpList _ _ _ (Oper.mk _ (Op.build 24 _) _ _ _ _ :: _) _ _); refine wpList_build rfl 24 _ rfl _ rfl (.agg (arr32 K64)) (by kernel_rfl) ?_)
    | ((with_reducible show wpList _ _ _ (Oper.mk _ (Op.build 26 _) _ _ _ _ :: _) _ _); refine wpList_build rfl 26 _ rfl _ rfl (.agg (arr32 H8)) (by kernel_rfl) ?_)
    | ((with_reducible show wpList _ _ _ (Oper.mk none (Op.store 24 _ _) _ _ _ _ :: _) _ _); refine wpList_store32 rfl 24 (.tmp 0) (.tmp 2) rfl w.heap.size rfl K64 rfl agg24 len_K64 _ _ b1 (by rw [size_arr32, len_z32]) ?_; intro w5 hb5 hg5 hs5; have b2' := b2.grown hg5 (by simp))
    | ((with_reducible show wpList _ _ _ (Oper.mk none (Op.store 26 _ _) _ _ _ _ :: _) _ _); refine wpList_store32 rfl 26 (.tmp 1) (.tmp 3) rfl (w.heap.size + 1) rfl H8 rfl agg26 len_H8 _ _ b2' (by rw [size_arr32, len_z32]) ?_; intro w6 hb6 hg6 hs6))
  refine bodyPost_ret (results_cell_two rfl _ w.heap.size (w.heap.size + 1) _ _ (arr32 K64) (arr32 H8) agg24 rfl agg26 rfl rfl rfl (hb5.grown hg6 (by simp)) hb6) rfl ⟨rfl, ?_⟩
  have h1 : Below w.heap.size w w5 := (((Below.refl _ _).alloc (Nat.le_refl _) _).alloc (by simp) _).grown hg5 (by simp; omega) (fun k hk => by cases hk; exact Nat.le_refl _)
  exact h1.grown hg6 h1.size (fun k hk => by cases hk; omega)

theorem guard26 : Try.prog.eqGuardType Try.prog.depth 26 = false := by kernel_rfl
theorem eq26 (xs ys : List UInt32) (r : Bool) (hr : (xs == ys) = r) (hx : xs.length = 8) (hy : ys.length = 8) (w : World) : (Op.equalIn 10000 26 (.agg (arr32 xs)) (.agg (arr32 ys))).run Try.prog w = .ok r w := by
  rw [run_equalIn_arr32 w _ _ 8 Try.underlying26 Try.underlying23 size4 xs ys hx hy, hr]
theorem build24z (w : World) : (Instr.build 24 #[]).run Try.prog w = .ok (.agg (arr32 (z32 64))) w := by kernel_rfl
theorem begin_moves : (takeH H8 (z32 64) == H8) = false := by decide +kernel
theorem len_bytes32 {zs : List Int} (h : ∀ z ∈ zs, (Lit.int .u32 z).wf = true) : zs.map (Value.int .u32) = (zs.map fun z => UInt32.ofNat z.toNat).map b32 := by
  rw [List.map_map]
  refine List.map_congr_left fun z hz => ?_
  have := h z hz
  simp only [Lit.wf, IntKind.min, IntKind.max, IntKind.signed, IntKind.bits] at this
  simp at this
  simp only [Function.comp, b32, UInt32.toNat_ofNat']
  congr 1
  omega

theorem reftakeK (hs ws : List UInt32) (hh : hs.length = 8) (hw : ws.length = 64) (w : World) :
    Calls Try.prog 31 #[.agg (arr32 hs), .agg (arr32 ws), .agg (arr32 K64)] w fun e w' => e = .returned (.agg (arr32 (takeH hs ws))) ∧ Below w.heap.size w w' := reftake_c hs ws K64 hh hw len_K64 w

set_option maxHeartbeats 1000000 in
theorem walk (hs ws : List UInt32) (w : World) (hh : hs.length = 8) (hw : ws.length = 64) :
    Calls Try.prog 7 #[.agg (arr32 hs), .agg (arr32 ws)] w fun e w' => e = .returned (.bool true) ∧ Below w.heap.size w w' := by
  have HH := Lib.hid hh
  have HW := Lib.hid hw
  have hge := guard26
  have he1 := eq26 (takeH hs ws) (takeH hs ws) true (by simp) (len_takeH _ _ hh) (len_takeH _ _ hh)
  have he2 := eq26 (takeH H8 (z32 64)) H8 false begin_moves (len_takeH _ _ len_H8) len_H8
  have hbd := build24z
  have b1 := (Blk.new w 26 (arr32 hs)).alloc (.cells (arr32 ws) 24)
  have b2 := Blk.new (w.alloc (.cells (arr32 hs) 26)) 24 (arr32 ws)
  rw [World.size_alloc] at b2
  have hb : Below w.heap.size w ((w.alloc (.cells (arr32 hs) 26)).alloc (.cells (arr32 ws) 24)) := ((Below.refl _ _).alloc (Nat.le_refl _) _).alloc (by simp) _
  clear hh hw
  go_enter Try.func7, Try.ntmps7
  go_wp2_with fail
  refine (table_c _).mono ?_
  rintro e w3 ⟨rfl, hb3⟩
  have hw3 := hb.trans (hb3.mono hb.size)
  have B1 := Blk.below b1 hb3 b1.lt
  have B2 := Blk.below b2 hb3 b2.lt
  have h1 := B1.lt
  have h2 := B2.lt
  have b3 := (Blk.new w3 24 (arr32 (z32 64))).alloc (.cells (arr32 (z32 8)) 26)
  have b4 := Blk.new (w3.alloc (.cells (arr32 (z32 64)) 24)) 26 (arr32 (z32 8))
  rw [World.size_alloc] at b4
  have B1' := (B1.alloc (.cells (arr32 (z32 64)) 24)).alloc (.cells (arr32 (z32 8)) 26)
  have B2' := (B2.alloc (.cells (arr32 (z32 64)) 24)).alloc (.cells (arr32 (z32 8)) 26)
  clear hb3 hb b1 b2 B1 B2
  go_wp2_with (first
    | ((with_reducible show wpList _ _ _ (Oper.mk _ (Op.alloc 24) _ _ _ _ :: _) _ _); refine wpList_alloc_agg rfl 24 rfl (arr32 (z32 64)) zero24 ?_; (try rw [World.size_alloc]))
    | ((with_reducible show wpList _ _ _ (Oper.mk _ (Op.alloc 26) _ _ _ _ :: _) _ _); refine wpList_alloc_agg rfl 26 rfl (arr32 (z32 8)) zero26 ?_; (try rw [World.size_alloc]))
    | ((with_reducible show wpList _ _ _ (Oper.mk none (Op.store 24 _ _) _ _ _ _ :: _) _ _); refine wpList_store32 rfl 24 (.tmp 5) (.tmp 9) rfl w3.heap.size rfl K64 rfl agg24 len_K64 _ _ b3 (by rw [size_arr32, len_z32]) ?_; intro w5 hb5 hg5 hs5; have b4' := b4.grown hg5 (by simp); have C1 := B1'.grown hg5 (by simp; omega); have C2 := B2'.grown hg5 (by simp; omega))
    | ((with_reducible show wpList _ _ _ (Oper.mk none (Op.store 26 _ _) _ _ _ _ :: _) _ _); refine wpList_store32 rfl 26 (.tmp 6) (.tmp 10) rfl (w3.heap.size + 1) rfl H8 rfl agg26 len_H8 _ _ b4' (by rw [size_arr32, len_z32]) ?_; intro w6 hb6 hg6 hs6; have D1 := C1.grown hg6 (by simp; omega); have D2 := C2.grown hg6 (by simp; omega); have D3 := hb5.grown hg6 (by simp)))
  have hw5 : Below w.heap.size w w5 := ((hw3.alloc hw3.size _).alloc (Nat.le_trans hw3.size (by simp)) _).grown hg5 (Nat.le_trans hw3.size (by simp; omega)) (fun k hk => by cases hk; exact hw3.size)
  have hw6 : Below w.heap.size w w6 := hw5.grown hg6 hw5.size (fun k hk => by cases hk; exact Nat.le_trans hw3.size (Nat.le_succ _))
  clear B1' B2' b3 b4 b4' C1 C2 hg5 hs5 hg6 hs6 hb5
  simp only [Act.put, List.setIfInBounds_toArray, List.set_cons_succ, List.set_cons_zero]
  refine wp_region_later (by kernel_rfl) (by kernel_rfl) ?_
  repeat (first
    | ((with_reducible show wpQuiet _ _ _ _ (Oper.mk (some 11) (Op.load 26 _) _ _ _ _ :: _) _); refine quiet_load_agg rfl 26 (.tmp 2) rfl w.heap.size rfl (arr32 hs) agg26 (by rw [size_arr32, HH.out]) 26 D1 ?_; simp only [Act.put, List.setIfInBounds_toArray, List.set_cons_succ, List.set_cons_zero])
    | ((with_reducible show wpQuiet _ _ _ _ (Oper.mk (some 14) (Op.load 26 _) _ _ _ _ :: _) _); refine quiet_load_agg rfl 26 (.tmp 2) rfl w.heap.size rfl (arr32 hs) agg26 (by rw [size_arr32, HH.out]) 26 D1 ?_; simp only [Act.put, List.setIfInBounds_toArray, List.set_cons_succ, List.set_cons_zero])
    | ((with_reducible show wpQuiet _ _ _ _ (Oper.mk (some 16) (Op.load 24 _) _ _ _ _ :: _) _); refine quiet_load_agg rfl 24 (.tmp 5) rfl w3.heap.size rfl (arr32 K64) agg24 (by rw [size_arr32, len_K64]) 24 D3 ?_; simp only [Act.put, List.setIfInBounds_toArray, List.set_cons_succ, List.set_cons_zero])
    | ((with_reducible show wpQuiet _ _ _ _ (Oper.mk _ (Op.load 24 _) _ _ _ _ :: _) _); refine quiet_load_agg rfl 24 (.tmp 3) rfl (w.heap.size + 1) rfl (arr32 ws) agg24 (by rw [size_arr32, HW.out]) 24 D2 ?_; simp only [Act.put, List.setIfInBounds_toArray, List.set_cons_succ, List.set_cons_zero])
    | ((with_reducible show wpQuiet _ _ _ _ (Oper.mk _ (Op.build 24 _) _ _ _ _ :: _) _); refine quiet_build rfl 24 _ rfl #[] (by simp only [List.map_toArray, List.map_nil]) _ build24z ?_; simp only [Act.put, List.setIfInBounds_toArray, List.set_cons_succ, List.set_cons_zero])
    | go_big_quiet_step (first
        | (go_at_call 23; with_reducible exact Later.call _ (begin_c _))
        | (go_at_call 31; with_reducible exact Later.call _ (reftakeK hs ws HH.out HW.out _))
        | (go_at_call 30; first | (with_reducible exact Later.call _ (take_c hs ws HH.out HW.out _)) | (with_reducible exact Later.call _ (take_c H8 (z32 64) len_H8 (len_z32 _) _)))))
  refine wpQuiet_nil ?_
  rintro _ ⟨X, rfl⟩
  have hX := hw6.trans (X.below.mono hw6.size)
  go_wp2_with fail
  go_ret
  exact ⟨rfl, hX⟩
end Go.Proofs.Ytbphoilfiahnpaa.digestTake
