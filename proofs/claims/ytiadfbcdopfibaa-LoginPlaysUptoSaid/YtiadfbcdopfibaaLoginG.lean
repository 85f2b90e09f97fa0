/-
  login: the chapter's example (printed by wip/gen_login6.py).
-/
import Derived.Test.YtiadfbcdopfibaaLoginF
namespace Go.Proofs.Ytiadfbcdopfibaa
open Go.RowKit
set_option linter.unusedVariables false
set_option linter.unusedSimpArgs false
set_option maxRecDepth 100000

theorem buildSec (A : Option Addr) (n c : Nat) (A' : Option Addr) (n' c' : Nat) (w : World) : (Instr.build 24 #[(1, .int .i64 1), (2, .slice A n c), (3, .slice A' n' c')]).run Try.prog w = .ok (.agg #[.int .i64 0, .int .i64 1, .slice A n c, .slice A' n' c']) w := by kernel_rfl
theorem zeroSec : (Try.prog.info? 24).bind (·.zero) = some (.agg #[.int .i64 0, .int .i64 0, .slice none 0 0, .slice none 0 0]) := by kernel_rfl
def d9 : List UInt8 := 9 :: List.replicate 31 0
theorem buildD9 (w : World) : (Instr.build 34 #[(0, .int .u8 9)]).run Try.prog w = .ok (.agg (arr8 d9)) w := by kernel_rfl
theorem buildFr1 (k n : Int) (A : Option Addr) (m c : Nat) (w : World) : (Instr.build 36 #[(0, .int .i64 k), (1, .int .i64 n), (3, .slice A m c)]).run Try.prog w = .ok (.agg #[.int .i64 k, .int .i64 n, .int .i64 0, .slice A m c]) w := by kernel_rfl
theorem buildFr3 (k : Int) (A : Option Addr) (m c : Nat) (w : World) : (Instr.build 36 #[(0, .int .i64 k), (3, .slice A m c)]).run Try.prog w = .ok (.agg #[.int .i64 k, .int .i64 0, .int .i64 0, .slice A m c]) w := by kernel_rfl
theorem buildFr5 (k n : Int) (w : World) : (Instr.build 36 #[(0, .int .i64 k), (1, .int .i64 n)]).run Try.prog w = .ok (.agg #[.int .i64 k, .int .i64 n, .int .i64 0, .slice none 0 0]) w := by kernel_rfl
/-- Bytes of a constant, laid and marked. -/
theorem mark_c (w : World) (t : List UInt8) (cur : Array Value) (hcur : cur = (t.map b8).toArray) (k : Nat) (ht : t.length = k) (hk2 : k ≤ maxLen) :
    ∃ v2, (convert 22 22 (.slice (some ⟨w.heap.size, 0, none⟩) k k)).run Try.prog (w.alloc (.cells cur 5)) = .ok (.slice (some ⟨w.heap.size, 0, none⟩) k k) v2 ∧ Below w.heap.size w v2 ∧ SlB v2 v2.heap.size (some ⟨w.heap.size, 0, none⟩) k k t := by
  subst hcur
  obtain ⟨g, m, e, l, b, e1, z⟩ := RelK.new (w := w) w.heap.size t k (Nat.le_refl _) ht hk2 _ rfl
  simp only [Value.slice.injEq, Option.some.injEq, Addr.mk.injEq, and_true] at e
  obtain rfl : g = w.heap.size := e.symm
  have HL := LeM.freeze (k := (t.map b8).toArray.size) l b
  refine ⟨_, run_mark k k b, (below_alloc _ _).trans HL.1.1, ?_⟩
  obtain ⟨A, c, e2, h2⟩ := RelK.relB ⟨_, HL.2.choose, rfl, l, HL.2.choose_spec, e1, z⟩
  simp only [Value.slice.injEq, true_and] at e2
  obtain ⟨rfl, rfl⟩ := e2
  exact h2

def z16 : List UInt8 := List.replicate 16 0
def al0 : Sst := ⟨0, 0, 0, z8' 32⟩
def al1 (d : List UInt8) : Sst := ⟨1, 1, 0, d⟩
def al2 (d : List UInt8) : Sst := ⟨2, 1, 1, d⟩
def al3 (d : List UInt8) : Sst := ⟨2, 1, 2, d⟩
def alO1 (d ou : List UInt8) : Out := ⟨true, 2, 1, 0, d ++ ansOf 1 ou z16, true, false⟩
section
variable (th ou d : List UInt8)
theorem al_1 : hnd 1 th ou al0 1 1 z16 d = (al1 d, alO1 d ou) := by rw [hnd, if_pos rfl, if_pos ⟨rfl, by decide, by decide⟩]; rfl
theorem al_2 : hnd 1 th ou (al1 d) 3 0 (ansOf 1 th d) d = (al2 d, ⟨true, 4, 0, 0, [], false, false⟩) := by
  have e : (((al1 d).gr % 256 : Nat) : Int) = 1 := rfl
  rw [hnd, if_neg (by omega), if_pos rfl, if_pos (show (al1 d).st = 1 from rfl), e, show (al1 d).ch = d from rfl, if_pos (beq_self_eq_true _)]
  rfl
theorem al_3 : hnd 1 th ou (al2 d) 5 1 [] d = (al3 d, ⟨false, 0, 0, 0, [], false, true⟩) := by rw [hnd, if_neg (by omega), if_neg (by omega), if_pos rfl, if_pos (show (al2 d).st = 2 from rfl), if_pos (show 1 = (al2 d).nx from rfl)]; rfl
theorem al_4 : hnd 1 th ou (al3 d) 5 1 [] d = (al3 d, Out.rej 13) := by rw [hnd, if_neg (by omega), if_neg (by omega), if_pos rfl, if_pos (show (al3 d).st = 2 from rfl), if_neg (show ¬ 1 = (al3 d).nx by show ¬ (1 : Int) = 2; omega)]
end

set_option maxHeartbeats 4000000 in
theorem alive_c (w : World) : Calls Try.prog 11 #[] w fun e w' => e = .returned (.bool true) ∧ Below w.heap.size w w' := by
  obtain ⟨v1, hm1, hb1, hs1⟩ := mark_c w [116] #[.int .u8 116] rfl 1 rfl (by simp [maxLen])
  obtain ⟨v2, hm2, hb2, hs2⟩ := mark_c v1 [111] #[.int .u8 111] rfl 1 rfl (by simp [maxLen])
  have hz1 := hb1.size
  have hz2 := hb2.size
  have hB1 := buildSec
  obtain ⟨dd, hB2, hdl⟩ : ∃ d : List UInt8, (∀ w, (Instr.build 34 #[(0, .int .u8 9)]).run Try.prog w = .ok (.agg (arr8 d)) w) ∧ d.length = 32 := ⟨d9, buildD9, rfl⟩
  obtain ⟨th, hth, hs1⟩ : ∃ t : List UInt8, t.length = 1 ∧ SlB v1 v1.heap.size (some ⟨w.heap.size, 0, none⟩) 1 1 t := ⟨[116], rfl, hs1⟩
  obtain ⟨ou, hou, hs2⟩ : ∃ t : List UInt8, t.length = 1 ∧ SlB v2 v2.heap.size (some ⟨v1.heap.size, 0, none⟩) 1 1 t := ⟨[111], rfl, hs2⟩
  have HDL := Lib.hid hdl
  obtain ⟨gc, hgc⟩ : ∃ g, g = v2.heap.size := ⟨_, rfl⟩
  have hS1 : w.heap.size < v1.heap.size := by obtain ⟨b, off, e, hl, _⟩ := hs1.2.2.2 (by omega); cases e; exact hl
  have hS2 : v1.heap.size < v2.heap.size := by obtain ⟨b, off, e, hl, _⟩ := hs2.2.2.2 (by omega); cases e; exact hl
  have t1 := (hs1.below (hb2.mono (Nat.le_refl _))).more hz2
  obtain ⟨v3, hv3⟩ : ∃ v, v = v2.alloc (.cells #[.int .i64 0, .int .i64 1, .slice (some ⟨w.heap.size, 0, none⟩) 1 1, .slice (some ⟨v1.heap.size, 0, none⟩) 1 1] 24) := ⟨_, rfl⟩
  have b3 : Blk v3 gc 24 #[.int .i64 0, .int .i64 1, .slice (some ⟨w.heap.size, 0, none⟩) 1 1, .slice (some ⟨v1.heap.size, 0, none⟩) 1 1] := by rw [hv3, hgc]; exact Blk.new _ _ _
  have hb3 : Below v2.heap.size v2 v3 := by rw [hv3]; exact below_alloc _ _
  have hz3 := hb3.size
  have HV3 := Lib.hid hv3
  clear hv3
  have hT := Lib.hid t1
  have hO := Lib.hid hs2
  have HGC := Lib.hid hgc
  clear t1 hs1 hs2 hgc hdl
  go_enter Try.func11, Try.ntmps11
  go_wp2_with (first
    | ((with_reducible show wpList _ _ _ (Oper.mk _ (Op.load 24 (.tmp 1)) _ _ _ _ :: _) _ _); rw [← HV3.out, ← HGC.out]; refine wpList_load_whole rfl 24 (.tmp 1) rfl gc rfl #[.int .i64 0, .int .i64 1, .slice (some ⟨w.heap.size, 0, none⟩) 1 1, .slice (some ⟨v1.heap.size, 0, none⟩) 1 1] aggSec rfl _ b3 ?_)
    | (go_at_call 12; refine (new_c ((hT.out.below hb3).more hz3) ((hO.out.below hb3).more hz3) (Nat.le_refl _) (by omega) (by omega)).mono ?_; rintro e v4 ⟨gs, rfl, hse4, hb4⟩; have hz4 := hb4.size; have b34 := b3.below hb4 b3.lt; have hl3 := b3.lt; have HE4 := Lib.hid hse4; have hgs4 := hse4.hb; clear hse4; have bs5 := Blk.new v4 34 (arr8 (z8' 32)); have hbs5 := below_alloc v4 (.cells (arr8 (z8' 32)) 34))
    | ((with_reducible show wpList _ _ _ (Oper.mk (some 18) (Op.build 34 _) _ _ _ _ :: _) _ _); refine wpList_build rfl 34 _ rfl #[(0, .int .u8 9)] (by simp only [List.map_toArray, List.map_cons, List.map_nil]; rfl) _ (hB2 _) ?_; simp only [Act.put, List.setIfInBounds_toArray, List.set_cons_succ, List.set_cons_zero])
    | ((with_reducible show wpList _ _ _ (Oper.mk (some 3) (Op.alloc _) _ _ _ _ :: _) _ _); refine wpList_alloc_agg rfl 34 rfl (arr8 (z8' 32)) zero44 ?_; simp only [Act.put, List.setIfInBounds_toArray, List.set_cons_succ, List.set_cons_zero])
    | ((with_reducible show wpList _ _ _ (Oper.mk none (Op.store 34 (.tmp 3) _) _ _ _ _ :: _) _ _); refine wpList_store8 rfl 34 (.tmp 3) (.tmp 18) rfl v4.heap.size rfl dd rfl agg44 HDL.out _ _ bs5 (by rw [size_arr8, len_z8']) ?_; intro v5 b5 q5 s5; have hb5 := hbs5.grown q5 hbs5.size (fun k hk => by cases hk; exact Nat.le_refl _)))
  have hse5 := HE4.out.below hb5
  have hgs4' := HE4.out.lt
  have hz5 := hb5.size
  have HGS : gs < v5.heap.size := by omega
  have HNG : v4.heap.size ≠ gs := by omega
  have HBW : v3.heap.size ≤ v5.heap.size := by omega
  have b35 := b34.below hb5 b34.lt
  have HE5 := Lib.hid (show Se v5 v3.heap.size gs 1 th ou al0.st (al0.gr : Int) al0.ch al0.nx from hse5)
  have hB6 := buildFr1
  have hmk := fun W => run_make8 16 16 16 16 rfl rfl (Nat.le_refl _) (by omega) W
  clear hse5 s5
  refine Code.wp_mono (Q := Exit.then (fun a' v6 => ∃ g4 g, (∃ y9 y10 y11 y12 y13 y14 y15 y16 y17 y18 y19 y20 y21 y22 y23 : Value, a' = { tmps := #[.bool false, .pointer (some ⟨gc, 0, none⟩), .pointer (some ⟨gs, 0, none⟩), .pointer (some ⟨v4.heap.size, 0, none⟩), .pointer (some ⟨g4, 0, none⟩), undef, undef, undef, undef, y9, y10, y11, y12, y13, y14, y15, y16, y17, y18, y19, y20, y21, y22, y23, undef, undef, undef, undef, undef, undef, undef, undef, undef, undef, undef, undef, undef, undef, undef, undef, undef, undef, undef, undef, undef, undef, undef, undef, undef, undef, undef, undef, undef, undef, undef, undef, undef, undef, undef, undef, undef, undef, undef, undef, undef, undef, undef, undef, undef, undef, undef, undef, undef, undef, undef, undef, undef, undef, undef, undef, undef, undef, undef, undef, undef, undef], defers := [] }) ∧ v5.heap.size ≤ g4 ∧ Blk v6 g4 42 #[.slice (some ⟨g, 0, none⟩) 1 1, .bool true, .bool false] ∧ SC v3.heap.size gs 1 th ou al0 (al1 dd) v5 true v6) (fun _ _ _ => False)) ?_ ?_
  rotate_left
  · refine (wpIn_wide (n := 4)).1 ?_
    refine wpIn_region_relS free_wide rfl 6 (Fr [gs]) (fun W W' => Below W.heap.size W W') 4 (SC v3.heap.size gs 1 th ou al0 (al1 dd) v5)
      [Det (.pointer (some ⟨gs, 0, none⟩)), RelO v5.heap.size 16 z16, RelG v5.heap.size 1 1 0 16 z16, Det (.agg (arr8 dd)), RelV v5.heap.size (alO1 dd ou), RelW v5.heap.size 42 #[.slice none 0 0, .bool false, .bool false], Any]
      [[], [], [(1, some 20)], [], [(0, some 19), (2, some 21), (3, some 22)], [], [(5, some 4), (4, some 23)]]
      [[], [], [1], [], [0, 1, 2, 3], [], [0, 1, 2, 3, 4, 5]]
      [(0, some 19), (1, some 20), (2, some 21), (3, some 22), (4, some 23), (5, some 4), (6, none)] (by kernel_rfl) (by kernel_rfl) (by kernel_rfl) (fun b W W1 h1 h2 => h1.step h2) (by decide) (SC.drew HE5.out) ?_ ?_ ?_
    · exact (AllMono.cons (Det.laterS HGS) (AllMono.cons (RelO.laterS HGS) (AllMono.cons (RelG.laterS HGS) (AllMono.cons (Det.laterS HGS) (AllMono.cons (RelV.laterS HGS) (AllMono.cons (RelW.laterS HGS) (AllMono.cons (Any.laterS HGS) AllMono.nil)))))))
    · refine AllObS.cons (by decide) ?_ (AllObS.cons (by decide) ?_ (AllObS.cons (by decide) ?_ (AllObS.cons (by decide) ?_ (AllObS.call ?_ (AllObS.cons (by decide) ?_ (AllObS.nil))))))
      · intro bF uF W hC' hU aF hF
        have hC : SC v3.heap.size gs 1 th ou al0 (al1 dd) v5 bF W := hC'
        clear hC'
        simp only [puts] at hF
        subst hF
        go_wp2_with (fail)
        exact ⟨rfl, rfl, (Below.refl _ _), rfl⟩
      · intro bF uF W hC' hU aF hF
        have hC : SC v3.heap.size gs 1 th ou al0 (al1 dd) v5 bF W := hC'
        clear hC'
        simp only [puts] at hF
        subst hF
        go_wp2_with (fail)
        exact ⟨rfl, rfl, (below_alloc _ _), ⟨_, _, rfl, OwB.full _ _ 16 hC.size (by simp [maxLen])⟩⟩
      · intro bF uF W hC' hU aF hF
        have hC : SC v3.heap.size gs 1 th ou al0 (al1 dd) v5 bF W := hC'
        clear hC'
        have h20 : (RelO v5.heap.size 16 z16) (uF 1) W := hU.1
        clear hU
        simp only [puts, Act.put, List.setIfInBounds_toArray, List.set_cons_zero, List.set_cons_succ] at hF
        generalize uF 1 = x20 at h20 hF
        obtain ⟨A20, c20, rfl, s20⟩ := h20
        subst hF
        go_wp2_with (fail)
        exact ⟨rfl, rfl, (Below.refl _ _), ⟨_, _, rfl, s20⟩⟩
      · intro bF uF W hC' hU aF hF
        have hC : SC v3.heap.size gs 1 th ou al0 (al1 dd) v5 bF W := hC'
        clear hC'
        simp only [puts] at hF
        subst hF
        go_wp2_with (((with_reducible show wpList _ _ _ (Oper.mk (some 22) (Op.load _ _) _ _ _ _ :: _) _ _); refine wpList_load_whole (by rfl) 34 (.tmp 3) rfl v4.heap.size rfl (arr8 dd) agg44 (by rw [size_arr8]; exact HDL.out) _ (hC.blk b5 HNG) ?_))
        exact ⟨rfl, rfl, (Below.refl _ _), rfl⟩
      · intro uF W hC' hU aF hF
        have hC : SC v3.heap.size gs 1 th ou al0 (al1 dd) v5 false W := hC'
        clear hC'
        have h19 : (Det (.pointer (some ⟨gs, 0, none⟩))) (uF 0) W := hU.1
        have h21 : (RelG v5.heap.size 1 1 0 16 z16) (uF 2) W := hU.2.1
        have h22 : (Det (.agg (arr8 dd))) (uF 3) W := hU.2.2.1
        clear hU
        simp only [puts, Act.put, List.setIfInBounds_toArray, List.set_cons_zero, List.set_cons_succ] at hF
        generalize uF 0 = x19 at h19 hF
        generalize uF 2 = x21 at h21 hF
        generalize uF 3 = x22 at h22 hF
        obtain rfl : x19 = (.pointer (some ⟨gs, 0, none⟩)) := h19
        obtain ⟨A21, c21, rfl, o21⟩ := h21
        obtain rfl : x22 = (.agg (arr8 dd)) := h22
        subst hF
        go_wp2_with ((go_at_call 14; refine (handle_c (s := al0) hC.se0 1 1 0 HDL.out hC.bw (by decide) (by decide) (by decide) (by omega) (by omega) (OwB.sl o21) (Nat.le_refl _) (own_far o21 HGS)).mono ?_; rintro e W1 hh; rw [al_1] at hh; obtain ⟨sv, rfl, hv, hh⟩ := hh))
        exact ⟨rfl, rfl, (hC.call2 hh), StepV.base_le hv hC.size⟩
      · intro bF uF W hC' hU aF hF
        have hC : SC v3.heap.size gs 1 th ou al0 (al1 dd) v5 bF W := hC'
        clear hC'
        simp only [puts] at hF
        subst hF
        go_wp2_with (((with_reducible show wpList _ _ _ (Oper.mk (some 4) (Op.alloc _) _ _ _ _ :: _) _ _); refine wpList_alloc_agg (by rfl) 42 rfl #[.slice none 0 0, .bool false, .bool false] zeroSt ?_))
        exact ⟨rfl, rfl, (below_alloc _ _), ⟨_, rfl, hC.size, Blk.new _ _ _⟩⟩
    intro uF W6 hC' hU aF hF
    have hCW6 : SC v3.heap.size gs 1 th ou al0 (al1 dd) v5 true W6 := hC'
    clear hC'
    have h23 : (RelV v5.heap.size (alO1 dd ou)) (uF 4) W6 := hU.2.2.2.2.1
    have h4 : (RelW v5.heap.size 42 #[.slice none 0 0, .bool false, .bool false]) (uF 5) W6 := hU.2.2.2.2.2.1
    clear hU
    simp only [List.take_succ_cons, List.take_zero, puts, Act.put, List.setIfInBounds_toArray, List.set_cons_zero, List.set_cons_succ] at hF
    generalize uF 0 = x19 at hF
    generalize uF 1 = x20 at hF
    generalize uF 2 = x21 at hF
    generalize uF 3 = x22 at hF
    generalize uF 4 = x23 at h23 hF
    generalize uF 5 = x4 at h4 hF
    obtain ⟨g4, rfl, z4, b4⟩ := h4
    subst hF
    simp only [List.drop_succ_cons, List.drop_zero]
    refine wpListIn_of free_wide (fun ⟨_, _, h⟩ => h) rfl ?_
    rcases h23 with ⟨_, g, A, c, rfl, z23, b23, o23⟩ | ⟨hf, _⟩
    rotate_left
    · exact Bool.noConfusion hf
    refine wpList_store_whole rfl 42 (.tmp 4) (.tmp 23) rfl g4 rfl [.slice (some ⟨g, 0, none⟩) 1 1, .bool true, .bool false] rfl aggSt rfl _ _ b4 rfl (by simp [Value.oneCell']) ?_
    intro v6 b46 q6 s6
    simp only [Act.put, List.setIfInBounds_toArray, List.set_cons_succ, List.set_cons_zero]
    exact wpList_nil ⟨g4, g, ⟨_, _, _, _, _, _, _, _, _, _, _, _, _, _, _, rfl⟩, z4, b46, hCW6.store b4 z4 HBW q6⟩
  rintro e a' v6 hh
  cases e with
  | normal =>
    obtain ⟨g4, g, ⟨y9, y10, y11, y12, y13, y14, y15, y16, y17, y18, y19, y20, y21, y22, y23, rfl⟩, z4, b46, hC6⟩ := hh
    have hz6 := hC6.size
    have hse6 := hC6.se1
    have b36 := hC6.blk b35 (by omega)
    have b56 := hC6.blk b5 HNG
    have hl6 := b56.lt
    have HF26 := Lib.hid ((((Fr.below hb3).trans (Fr.below hb4)).trans (Fr.below hb5)).trans hC6.fr)
    have HT6 := Lib.hid ((slN_keep hT.out (Nat.le_refl _) (fun b off e => by cases e; omega) HF26.out).more (Nat.le_trans hz3 (by omega : v3.heap.size ≤ v6.heap.size)))
    have hall3 := arr_off_run (P := Try.prog) (T := 34) Try.underlying34 size1 (by omega) v4.heap.size 0
    go_wp2_with fail
    refine Code.wp_mono (Q := Exit.then (fun a' v7 => ∃ g5, (∃ y9 y10 y11 y12 y13 y14 y15 y16 y17 y18 y19 y20 y21 y22 y23 y24 y25 y26 y27 : Value, a' = { tmps := #[.bool false, .pointer (some ⟨gc, 0, none⟩), .pointer (some ⟨gs, 0, none⟩), .pointer (some ⟨v4.heap.size, 0, none⟩), .pointer (some ⟨g4, 0, none⟩), .pointer (some ⟨g5, 0, none⟩), undef, undef, undef, y9, y10, y11, y12, y13, y14, y15, y16, y17, y18, y19, y20, y21, y22, y23, y24, y25, y26, y27, undef, undef, undef, undef, undef, undef, undef, undef, undef, undef, undef, undef, undef, undef, undef, undef, undef, undef, undef, undef, undef, undef, undef, undef, undef, undef, undef, undef, undef, undef, undef, undef, undef, undef, undef, undef, undef, undef, undef, undef, undef, undef, undef, undef, undef, undef, undef, undef, undef, undef, undef, undef, undef, undef, undef, undef, undef, undef], defers := [] }) ∧ v6.heap.size ≤ g5 ∧ Blk v7 g5 34 (arr8 (ansOf 1 th dd)) ∧ Below v6.heap.size v6 v7) (fun _ _ _ => False)) ?_ ?_
    rotate_left
    · refine (wpIn_wide (n := 4)).1 ?_
      refine wpIn_region_rel free_wide rfl 5 (fun W W' => Below W.heap.size W W') (fun W => Below v6.heap.size v6 W)
        [Det (.pointer (some ⟨gc, 2, none⟩)), Det (.slice (some ⟨w.heap.size, 0, none⟩) 1 1), Det (.slice (some ⟨v4.heap.size, 0, none⟩) 32 32), Det (.agg (arr8 (ansOf 1 th dd))), RelW v6.heap.size 34 (arr8 (z8' 32)), Any]
        [[], [(0, some 24)], [], [(1, some 25), (2, some 26)], [], [(4, some 5), (3, some 27)]]
        [[], [0], [], [0, 1, 2], [], [0, 1, 2, 3, 4]]
        [(0, some 24), (1, some 25), (2, some 26), (3, some 27), (4, some 5), (5, none)] (by kernel_rfl) (by kernel_rfl) (by kernel_rfl) (fun W W' h1 h2 => h1.trans (h2.mono h1.size)) ((Below.refl _ _).drew) ?_ ?_ ?_
      · exact (AllMono.cons Det.later (AllMono.cons Det.later (AllMono.cons Det.later (AllMono.cons Det.later (AllMono.cons RelW.later (AllMono.cons Any.later AllMono.nil))))))
      · refine AllOb.cons ?_ (AllOb.cons ?_ (AllOb.cons ?_ (AllOb.cons ?_ (AllOb.cons ?_ (AllOb.nil)))))
        · intro uF W hC' hU aF hF
          have hC : Below v6.heap.size v6 W := hC'
          clear hC'
          simp only [puts] at hF
          subst hF
          go_wp2_with (fail)
          exact ⟨rfl, rfl, (Below.refl _ _), rfl⟩
        · intro uF W hC' hU aF hF
          have hC : Below v6.heap.size v6 W := hC'
          clear hC'
          have h24 : (Det (.pointer (some ⟨gc, 2, none⟩))) (uF 0) W := hU.1
          clear hU
          simp only [puts, Act.put, List.setIfInBounds_toArray, List.set_cons_zero, List.set_cons_succ] at hF
          generalize uF 0 = x24 at h24 hF
          obtain rfl : x24 = (.pointer (some ⟨gc, 2, none⟩)) := h24
          subst hF
          have d1 : W.cell? ⟨gc, 2, none⟩ = some (.slice (some ⟨w.heap.size, 0, none⟩) 1 1) := by rw [(b36.below hC b36.lt).cell]; rfl
          go_wp2_with (fail)
          exact ⟨rfl, rfl, (Below.refl _ _), rfl⟩
        · intro uF W hC' hU aF hF
          have hC : Below v6.heap.size v6 W := hC'
          clear hC'
          simp only [puts] at hF
          subst hF
          go_wp2_with (fail)
          exact ⟨rfl, rfl, (Below.refl _ _), rfl⟩
        · intro uF W hC' hU aF hF
          have hC : Below v6.heap.size v6 W := hC'
          clear hC'
          have h25 : (Det (.slice (some ⟨w.heap.size, 0, none⟩) 1 1)) (uF 1) W := hU.1
          have h26 : (Det (.slice (some ⟨v4.heap.size, 0, none⟩) 32 32)) (uF 2) W := hU.2.1
          clear hU
          simp only [puts, Act.put, List.setIfInBounds_toArray, List.set_cons_zero, List.set_cons_succ] at hF
          generalize uF 1 = x25 at h25 hF
          generalize uF 2 = x26 at h26 hF
          obtain rfl : x25 = (.slice (some ⟨w.heap.size, 0, none⟩) 1 1) := h25
          obtain rfl : x26 = (.slice (some ⟨v4.heap.size, 0, none⟩) 32 32) := h26
          subst hF
          go_wp2_with ((go_at_call 17; refine (refanswer_c 1 ((HT6.out.below hC).more hC.size) (sum_sl (b56.below hC b56.lt) HDL.out) (Nat.le_refl _) (by omega) (by omega)).mono ?_; rintro e W1 ⟨rfl, hb⟩))
          exact ⟨rfl, rfl, hb, rfl⟩
        · intro uF W hC' hU aF hF
          have hC : Below v6.heap.size v6 W := hC'
          clear hC'
          simp only [puts] at hF
          subst hF
          go_wp2_with (((with_reducible show wpList _ _ _ (Oper.mk (some 5) (Op.alloc _) _ _ _ _ :: _) _ _); refine wpList_alloc_agg (by rfl) 34 rfl (arr8 (z8' 32)) zero44 ?_))
          exact ⟨rfl, rfl, (below_alloc _ _), ⟨_, rfl, hC.size, Blk.new _ _ _⟩⟩
      intro uF W7 hC' hU aF hF
      have hCW7 : Below v6.heap.size v6 W7 := hC'
      clear hC'
      have h27 : (Det (.agg (arr8 (ansOf 1 th dd)))) (uF 3) W7 := hU.2.2.2.1
      have h5 : (RelW v6.heap.size 34 (arr8 (z8' 32))) (uF 4) W7 := hU.2.2.2.2.1
      clear hU
      simp only [List.take_succ_cons, List.take_zero, puts, Act.put, List.setIfInBounds_toArray, List.set_cons_zero, List.set_cons_succ] at hF
      generalize uF 0 = x24 at hF
      generalize uF 1 = x25 at hF
      generalize uF 2 = x26 at hF
      generalize uF 3 = x27 at h27 hF
      generalize uF 4 = x5 at h5 hF
      obtain rfl : x27 = (.agg (arr8 (ansOf 1 th dd))) := h27
      obtain ⟨g5, rfl, z5, b5⟩ := h5
      subst hF
      simp only [List.drop_succ_cons, List.drop_zero]
      refine wpListIn_of free_wide (fun ⟨_, _, h⟩ => h) rfl ?_
      refine wpList_store8 rfl 34 (.tmp 5) (.tmp 27) rfl g5 rfl (ansOf 1 th dd) rfl agg44 (len_ansOf _ _ _) _ _ b5 (by rw [size_arr8, len_z8']) ?_
      intro v7 b57 q7 s7
      simp only [Act.put, List.setIfInBounds_toArray, List.set_cons_succ, List.set_cons_zero]
      exact wpList_nil ⟨g5, ⟨_, _, _, _, _, _, _, _, _, _, _, _, _, _, _, _, _, _, _, rfl⟩, z5, b57, hCW7.grown q7 hCW7.size (fun k hk => by cases hk; exact z5)⟩
    rintro e a' v7 hh
    cases e with
    | normal =>
      obtain ⟨g5, ⟨y9, y10, y11, y12, y13, y14, y15, y16, y17, y18, y19, y20, y21, y22, y23, y24, y25, y26, y27, rfl⟩, z5, b57, hb7⟩ := hh
      have hz7 := hb7.size
      have hse7 := hse6.below hb7
      have b67 := b56.below hb7 b56.lt
      have b47 := b46.below hb7 b46.lt
      have hgs7 : gs < v7.heap.size := by omega
      have HN7 : g5 ≠ gs := by omega
      have HN4 : g4 ≠ gs := by omega
      have HBW7 : v3.heap.size ≤ v7.heap.size := by omega
      have HE7 := Lib.hid hse7
      have hall5 := arr_off_run (P := Try.prog) (T := 34) Try.underlying34 size1 (by omega) g5 0
      have hB3 := buildFr3
      have hlan := len_ansOf 1 th dd
      have HAN := Lib.hid hlan
      clear hse7 hse6 hlan
      go_wp2_with fail
      refine Code.wp_mono (Q := Exit.then (fun a' v8 => ∃ g6 gb A6 c6, (∃ y9 y10 y11 y12 y13 y14 y15 y16 y17 y18 y19 y20 y21 y22 y23 y24 y25 y26 y27 y28 y29 y30 y31 y32 : Value, a' = { tmps := #[.bool false, .pointer (some ⟨gc, 0, none⟩), .pointer (some ⟨gs, 0, none⟩), .pointer (some ⟨v4.heap.size, 0, none⟩), .pointer (some ⟨g4, 0, none⟩), .pointer (some ⟨g5, 0, none⟩), .pointer (some ⟨g6, 0, none⟩), undef, undef, y9, y10, y11, y12, y13, y14, y15, y16, y17, y18, y19, y20, y21, y22, y23, y24, y25, y26, y27, y28, y29, y30, y31, y32, undef, undef, undef, undef, undef, undef, undef, undef, undef, undef, undef, undef, undef, undef, undef, undef, undef, undef, undef, undef, undef, undef, undef, undef, undef, undef, undef, undef, undef, undef, undef, undef, undef, undef, undef, undef, undef, undef, undef, undef, undef, undef, undef, undef, undef, undef, undef, undef, undef, undef, undef, undef, undef], defers := [] }) ∧ v7.heap.size ≤ g6 ∧ Blk v8 g6 42 #[.slice (some ⟨gb, 0, none⟩) 1 1, .bool false, .bool false] ∧ v7.heap.size ≤ gb ∧ Blk v8 gb 36 #[.int .i64 4, .int .i64 0, .int .i64 0, .slice A6 0 c6] ∧ SC v3.heap.size gs 1 th ou (al1 dd) (al2 dd) v7 true v8) (fun _ _ _ => False)) ?_ ?_
      rotate_left
      · refine (wpIn_wide (n := 4)).1 ?_
        refine wpIn_region_relS free_wide rfl 6 (Fr [gs]) (fun W W' => Below W.heap.size W W') 4 (SC v3.heap.size gs 1 th ou (al1 dd) (al2 dd) v7)
          [Det (.pointer (some ⟨gs, 0, none⟩)), Det (.slice (some ⟨g5, 0, none⟩) 32 32), Det (.agg #[.int .i64 3, .int .i64 0, .int .i64 0, .slice (some ⟨g5, 0, none⟩) 32 32]), Det (.agg (arr8 dd)), RelV v7.heap.size ⟨true, 4, 0, 0, [], false, false⟩, RelW v7.heap.size 42 #[.slice none 0 0, .bool false, .bool false], Any]
          [[], [], [(1, some 29)], [], [(0, some 28), (2, some 30), (3, some 31)], [], [(5, some 6), (4, some 32)]]
          [[], [], [1], [], [0, 1, 2, 3], [], [0, 1, 2, 3, 4, 5]]
          [(0, some 28), (1, some 29), (2, some 30), (3, some 31), (4, some 32), (5, some 6), (6, none)] (by kernel_rfl) (by kernel_rfl) (by kernel_rfl) (fun b W W1 h1 h2 => h1.step h2) (by decide) (SC.drew HE7.out) ?_ ?_ ?_
        · exact (AllMono.cons (Det.laterS hgs7) (AllMono.cons (Det.laterS hgs7) (AllMono.cons (Det.laterS hgs7) (AllMono.cons (Det.laterS hgs7) (AllMono.cons (RelV.laterS hgs7) (AllMono.cons (RelW.laterS hgs7) (AllMono.cons (Any.laterS hgs7) AllMono.nil)))))))
        · refine AllObS.cons (by decide) ?_ (AllObS.cons (by decide) ?_ (AllObS.cons (by decide) ?_ (AllObS.cons (by decide) ?_ (AllObS.call ?_ (AllObS.cons (by decide) ?_ (AllObS.nil))))))
          · intro bF uF W hC' hU aF hF
            have hC : SC v3.heap.size gs 1 th ou (al1 dd) (al2 dd) v7 bF W := hC'
            clear hC'
            simp only [puts] at hF
            subst hF
            go_wp2_with (fail)
            exact ⟨rfl, rfl, (Below.refl _ _), rfl⟩
          · intro bF uF W hC' hU aF hF
            have hC : SC v3.heap.size gs 1 th ou (al1 dd) (al2 dd) v7 bF W := hC'
            clear hC'
            simp only [puts] at hF
            subst hF
            go_wp2_with (fail)
            exact ⟨rfl, rfl, (Below.refl _ _), rfl⟩
          · intro bF uF W hC' hU aF hF
            have hC : SC v3.heap.size gs 1 th ou (al1 dd) (al2 dd) v7 bF W := hC'
            clear hC'
            have h29 : (Det (.slice (some ⟨g5, 0, none⟩) 32 32)) (uF 1) W := hU.1
            clear hU
            simp only [puts, Act.put, List.setIfInBounds_toArray, List.set_cons_zero, List.set_cons_succ] at hF
            generalize uF 1 = x29 at h29 hF
            obtain rfl : x29 = (.slice (some ⟨g5, 0, none⟩) 32 32) := h29
            subst hF
            go_wp2_with (fail)
            exact ⟨rfl, rfl, (Below.refl _ _), rfl⟩
          · intro bF uF W hC' hU aF hF
            have hC : SC v3.heap.size gs 1 th ou (al1 dd) (al2 dd) v7 bF W := hC'
            clear hC'
            simp only [puts] at hF
            subst hF
            go_wp2_with (((with_reducible show wpList _ _ _ (Oper.mk (some 31) (Op.load _ (.tmp 3)) _ _ _ _ :: _) _ _); refine wpList_load_whole (by rfl) 34 (.tmp 3) rfl v4.heap.size rfl (arr8 dd) agg44 (by rw [size_arr8]; exact HDL.out) _ (hC.blk b67 HNG) ?_))
            exact ⟨rfl, rfl, (Below.refl _ _), rfl⟩
          · intro uF W hC' hU aF hF
            have hC : SC v3.heap.size gs 1 th ou (al1 dd) (al2 dd) v7 false W := hC'
            clear hC'
            have h28 : (Det (.pointer (some ⟨gs, 0, none⟩))) (uF 0) W := hU.1
            have h30 : (Det (.agg #[.int .i64 3, .int .i64 0, .int .i64 0, .slice (some ⟨g5, 0, none⟩) 32 32])) (uF 2) W := hU.2.1
            have h31 : (Det (.agg (arr8 dd))) (uF 3) W := hU.2.2.1
            clear hU
            simp only [puts, Act.put, List.setIfInBounds_toArray, List.set_cons_zero, List.set_cons_succ] at hF
            generalize uF 0 = x28 at h28 hF
            generalize uF 2 = x30 at h30 hF
            generalize uF 3 = x31 at h31 hF
            obtain rfl : x28 = (.pointer (some ⟨gs, 0, none⟩)) := h28
            obtain rfl : x30 = (.agg #[.int .i64 3, .int .i64 0, .int .i64 0, .slice (some ⟨g5, 0, none⟩) 32 32]) := h30
            obtain rfl : x31 = (.agg (arr8 dd)) := h31
            subst hF
            go_wp2_with ((go_at_call 14; refine (handle_c (s := al1 dd) hC.se0 3 0 0 HDL.out hC.bw (show (1 : Nat) ≤ 1000000 by omega) (show (0 : Int) ≤ 0 by omega) (show (0 : Int) ≤ 1000000 by omega) (by omega) (by omega) (sum_sl (hC.blk b57 HN7) HAN.out) (Nat.le_refl _) (fun _ b off e => by cases e; exact HN7)).mono ?_; rintro e W1 hh; rw [al_2] at hh; obtain ⟨sv, rfl, hv, hh⟩ := hh))
            exact ⟨rfl, rfl, (hC.call2 hh), StepV.base_le hv hC.size⟩
          · intro bF uF W hC' hU aF hF
            have hC : SC v3.heap.size gs 1 th ou (al1 dd) (al2 dd) v7 bF W := hC'
            clear hC'
            simp only [puts] at hF
            subst hF
            go_wp2_with (((with_reducible show wpList _ _ _ (Oper.mk (some 6) (Op.alloc _) _ _ _ _ :: _) _ _); refine wpList_alloc_agg (by rfl) 42 rfl #[.slice none 0 0, .bool false, .bool false] zeroSt ?_))
            exact ⟨rfl, rfl, (below_alloc _ _), ⟨_, rfl, hC.size, Blk.new _ _ _⟩⟩
        intro uF W8 hC' hU aF hF
        have hCW8 : SC v3.heap.size gs 1 th ou (al1 dd) (al2 dd) v7 true W8 := hC'
        clear hC'
        have h32 : (RelV v7.heap.size ⟨true, 4, 0, 0, [], false, false⟩) (uF 4) W8 := hU.2.2.2.2.1
        have h6 : (RelW v7.heap.size 42 #[.slice none 0 0, .bool false, .bool false]) (uF 5) W8 := hU.2.2.2.2.2.1
        clear hU
        simp only [List.take_succ_cons, List.take_zero, puts, Act.put, List.setIfInBounds_toArray, List.set_cons_zero, List.set_cons_succ] at hF
        generalize uF 0 = x28 at hF
        generalize uF 1 = x29 at hF
        generalize uF 2 = x30 at hF
        generalize uF 3 = x31 at hF
        generalize uF 4 = x32 at h32 hF
        generalize uF 5 = x6 at h6 hF
        obtain ⟨g6, rfl, z6, b6⟩ := h6
        subst hF
        simp only [List.drop_succ_cons, List.drop_zero]
        refine wpListIn_of free_wide (fun ⟨_, _, h⟩ => h) rfl ?_
        rcases h32 with ⟨_, gb, A, c, rfl, z32, b32, o32⟩ | ⟨hf, _⟩
        rotate_left
        · exact Bool.noConfusion hf
        refine wpList_store_whole rfl 42 (.tmp 6) (.tmp 32) rfl g6 rfl [.slice (some ⟨gb, 0, none⟩) 1 1, .bool false, .bool false] rfl aggSt rfl _ _ b6 rfl (by simp [Value.oneCell']) ?_
        intro v8 b68 q8 s8
        simp only [Act.put, List.setIfInBounds_toArray, List.set_cons_succ, List.set_cons_zero]
        have ne : gb ≠ g6 := fun e => by
          have := b32
          rw [e, Blk, b6] at this
          simp at this
        exact wpList_nil ⟨g6, gb, A, c, ⟨_, _, _, _, _, _, _, _, _, _, _, _, _, _, _, _, _, _, _, _, _, _, _, _, rfl⟩, z6, b68, z32, b32.grown q8 (by simpa using ne), hCW8.store b6 z6 HBW7 q8⟩
      rintro e a' v8 hh
      cases e with
      | normal =>
        obtain ⟨g6, gb, A6, c6, ⟨y9, y10, y11, y12, y13, y14, y15, y16, y17, y18, y19, y20, y21, y22, y23, y24, y25, y26, y27, y28, y29, y30, y31, y32, rfl⟩, z6, b68, zb, bb8, hC8⟩ := hh
        have hz8 := hC8.size
        have hse8 := hC8.se1
        have b58 := hC8.blk b57 HN7
        have b38 := hC8.blk b67 HNG
        have b48 := hC8.blk b47 HN4
        have hgs8 := hse8.lt
        have hB9 := buildFr5
        have HB38 := Lib.hid b38
        have HB48 := Lib.hid b48
        have HB68 := Lib.hid b68
        have HBB8 := Lib.hid bb8
        have HE8 := Lib.hid hse8
        have hl38 := b38.lt
        have hl48 := b48.lt
        have hl68 := b68.lt
        have hlb8 := bb8.lt
        have HN8 := Lib.hid (show g6 ≠ gs ∧ gb ≠ gs by omega)
        have HBL8 := Lib.hid (((((((hb1.trans (hb2.mono hz1)).trans (hb3.mono (Nat.le_trans hz1 hz2))).trans (hb4.mono (by omega))).trans (hb5.mono (by omega))).trans (hC6.bel.mono (by omega))).trans (hb7.mono (by omega))).trans (hC8.bel.mono (by omega)) : Below w.heap.size w v8)
        clear hse8 b38 b48 b68 bb8 b58
        go_wp2_with (first
          | (go_at_call 14; (with_reducible show Calls _ _ _ v8 _); refine (handle_c (s := al2 dd) (ds := []) HE8.out 5 1 0 HDL.out (by have := HE8.out.hb; omega) (show (1 : Nat) ≤ 1000000 by omega) (show (0 : Int) ≤ 1 by omega) (show (1 : Int) ≤ 1000000 by omega) (by omega) (by omega) (OwB.sl (OwB.nil v8 v8.heap.size none)) (Nat.le_refl _) (fun h => absurd h (by omega))).mono ?_; rintro e v9 hh; rw [al_3] at hh; obtain ⟨sv, rfl, hv, hse9, hb9, hf9⟩ := hh; rcases hv with ⟨hf, _⟩ | ⟨_, rfl⟩; (first | exact Bool.noConfusion hf | skip);
              obtain ⟨u9, hu9⟩ : ∃ u, u = v9.alloc (.cells #[.slice none 0 0, .bool false, .bool true] 42) := ⟨_, rfl⟩;
              have hz9 := hf9.1;
              have HU9 := Lib.hid hu9;
              have HZ9 := Lib.hid (show u9.heap.size = v9.heap.size + 1 by rw [hu9, World.size_alloc]);
              have HW9 := Lib.hid (show Below v9.heap.size v9 u9 by rw [hu9]; exact below_alloc _ _);
              have HB79 := Lib.hid (show Blk u9 v9.heap.size 42 #[.slice none 0 0, .bool false, .bool true] by rw [hu9]; exact Blk.new _ _ _);
              have HE9 := Lib.hid (hse9.below HW9.out);
              have HF9 := Lib.hid (hf9.trans (Fr.below HW9.out));
              have HBL9 := Lib.hid ((HBL8.out.trans (hb9.mono (by omega))).trans (HW9.out.mono (by omega)));
              have HB39 := Lib.hid (HF9.out.blk HB38.out (by simpa using HNG));
              clear hu9 hse9 hb9 hf9)
          | (go_at_call 14; (with_reducible show Calls _ _ _ u9 _); refine (handle_c (s := al3 dd) (ds := []) HE9.out 5 1 0 HDL.out (by have := HE9.out.hb; have := HE9.out.lt; omega) (show (1 : Nat) ≤ 1000000 by omega) (show (0 : Int) ≤ 2 by omega) (show (2 : Int) ≤ 1000000 by omega) (by omega) (by omega) (OwB.sl (OwB.nil u9 u9.heap.size none)) (Nat.le_refl _) (fun h => absurd h (by omega))).mono ?_; rintro e v10 hh; rw [al_4] at hh; obtain ⟨sv, he, hv, hse10, hb10, hf10⟩ := hh; rcases hv with ⟨_, gd, Ad, cd, hsv, zd, hbd, od⟩ | ⟨hf, _⟩; (rotate_left; exact Bool.noConfusion hf);
              have hsv' : sv = .agg #[.slice (some ⟨gd, 0, none⟩) 1 1, .bool false, .bool false] := hsv;
              subst hsv'; subst he;
              have hbd' : Blk v10 gd 36 #[.int .i64 7, .int .i64 0, .int .i64 13, .slice Ad 0 cd] := hbd;
              obtain ⟨u10, hu10⟩ : ∃ u, u = v10.alloc (.cells #[.slice (some ⟨gd, 0, none⟩) 1 1, .bool false, .bool false] 42) := ⟨_, rfl⟩;
              have HU10 := Lib.hid hu10;
              have hw10 : Below v10.heap.size v10 u10 := (by rw [hu10]; exact below_alloc _ _);
              have HBL10 := Lib.hid ((HBL9.out.trans (hb10.mono (by omega))).trans (hw10.mono (by have := HBL9.out.size; have := hf10.1; omega)));
              have HF10 := Lib.hid (hf10.trans (Fr.below hw10));
              have HFA := Lib.hid (HF9.out.trans HF10.out);
              have c1 := (HFA.out.blk HB48.out (by simpa using HN4));
              have c2 := (HFA.out.blk HB68.out (by simpa using HN8.out.1));
              have c3 := (HFA.out.blk HBB8.out (by simpa using HN8.out.2));
              have c4 := (HF10.out.blk HB79.out (by simpa using (show v9.heap.size ≠ gs by omega)));
              have c5 : Blk u10 v10.heap.size 42 #[.slice (some ⟨gd, 0, none⟩) 1 1, .bool false, .bool false] := (by rw [hu10]; exact Blk.new _ _ _);
              have c6 := (hbd'.below hw10 hbd'.lt);
              have e1 : u10.cell? ⟨g4, 0, none⟩ = some (.slice (some ⟨g, 0, none⟩) 1 1) := (by rw [c1.cell]; rfl);
              have e2 : u10.cell? ⟨g4, 1, none⟩ = some (.bool true) := (by rw [c1.cell]; rfl);
              have e3 : u10.cell? ⟨g6, 0, none⟩ = some (.slice (some ⟨gb, 0, none⟩) 1 1) := (by rw [c2.cell]; rfl);
              have e4 : u10.cell? ⟨gb, 0, none⟩ = some (.int .i64 4) := (by rw [c3.cell]; rfl);
              have e5 : u10.cell? ⟨v9.heap.size, 2, none⟩ = some (.bool true) := (by rw [c4.cell]; rfl);
              have e6 : u10.cell? ⟨v10.heap.size, 2, none⟩ = some (.bool false) := (by rw [c5.cell]; rfl);
              have e7 : u10.cell? ⟨v10.heap.size, 0, none⟩ = some (.slice (some ⟨gd, 0, none⟩) 1 1) := (by rw [c5.cell]; rfl);
              have e8 : u10.cell? ⟨gd, 2, none⟩ = some (.int .i64 13) := (by rw [c6.cell]; rfl);
              rw [hu10] at e1 e2 e3 e4 e5 e6 e7 e8;
              clear hu10 hse10 hb10 hf10 hw10 c1 c2 c3 c4 c5 c6 hbd hbd' od hsv zd)
          | ((with_reducible show wpList _ _ _ (Oper.mk (some 35) (Op.load _ (.tmp 3)) _ _ _ _ :: _) _ _); refine wpList_load_whole (by rfl) 34 (.tmp 3) rfl v4.heap.size rfl (arr8 dd) agg44 (by rw [size_arr8]; exact HDL.out) _ (HB38.out) ?_)
          | ((with_reducible show wpList _ _ _ (Oper.mk (some 39) (Op.load _ (.tmp 3)) _ _ _ _ :: _) _ _); rw [← HU9.out]; refine wpList_load_whole (by rfl) 34 (.tmp 3) rfl v4.heap.size rfl (arr8 dd) agg44 (by rw [size_arr8]; exact HDL.out) _ (HB39.out) ?_))
        go_ret
        exact ⟨rfl, by rw [← HU10.out]; exact HBL10.out⟩
      | _ => exact hh.elim
    | _ => exact hh.elim
  | _ => exact hh.elim
end Go.Proofs.Ytiadfbcdopfibaa

