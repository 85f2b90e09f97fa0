/-
  login: a greeting (printed by wip/gen_login3.py).
-/
import Derived.Test.YtiadfbcdopfibaaLoginB
namespace Go.Proofs.Ytiadfbcdopfibaa
open Go.RowKit
set_option linter.unusedVariables false
set_option linter.unusedSimpArgs false
set_option maxRecDepth 100000

theorem concat_p {w : World} {n : Nat} {v : Value} {bss : List (List UInt8)} (h : RelP n bss v w) (fl : List UInt8) (hfl : bss.flatten = fl) (N : Nat) (hN : fl.length = N) (ht : N ≤ 140737488353000) :
    Calls Try.prog 47 #[v] w fun e w' => ∃ A' c', e = .returned (.slice A' N c') ∧ OwB w' w.heap.size A' N c' fl ∧ Below w.heap.size w w' := by
  subst hfl
  obtain ⟨A9, c9, ps, e, hs, hp, hj, ht9⟩ := h.parts
  rw [e]
  rw [hN] at ht9
  refine (concat_c ps hs (Nat.le_refl _) hp (by rw [ht9]; exact ht)).mono ?_
  rw [ht9, hj]
  exact fun e w' h => h
/-- A pointer to a block that holds these cells. -/
def RelW (base : Nat) (T : TypeId) (cs : Array Value) : Value → World → Prop := fun v w => ∃ g, v = .pointer (some ⟨g, 0, none⟩) ∧ base ≤ g ∧ Blk w g T cs
theorem RelW.later {base : Nat} {T : TypeId} {cs : Array Value} (v : Value) (w w' : World) (hb : Below w.heap.size w w') (h : RelW base T cs v w) : RelW base T cs v w' :=
  let ⟨g, e, hg, h⟩ := h
  ⟨g, e, hg, h.below hb h.lt⟩
/-- A frame that carries bytes of one's own. -/
def RelF (base : Nat) (id : Int) (bs : List UInt8) : Value → World → Prop := fun v w => ∃ A c, v = .agg #[.int .i64 2, .int .i64 id, .int .i64 0, .slice A 64 c] ∧ OwB w base A 64 c bs
theorem RelF.later {base : Nat} {id : Int} {bs : List UInt8} (v : Value) (w w' : World) (hb : Below w.heap.size w w') (h : RelF base id bs v w) : RelF base id bs v w' :=
  let ⟨A, c, e, h⟩ := h
  ⟨A, c, e, OwB.below h hb⟩
/-- A step that answers with such a frame. -/
def RelS (base : Nat) (id : Int) (bs : List UInt8) : Value → World → Prop := fun v w => ∃ g A c, v = .agg #[.slice (some ⟨g, 0, none⟩) 1 1, .bool false, .bool false] ∧ base ≤ g ∧ Blk w g 36 #[.int .i64 2, .int .i64 id, .int .i64 0, .slice A 64 c] ∧ OwB w base A 64 c bs
theorem RelS.later {base : Nat} {id : Int} {bs : List UInt8} (v : Value) (w w' : World) (hb : Below w.heap.size w w') (h : RelS base id bs v w) : RelS base id bs v w' :=
  let ⟨g, A, c, e, hg, h1, h⟩ := h
  ⟨g, A, c, e, hg, h1.below hb h1.lt, OwB.below h hb⟩
theorem buildFr2 (id : Int) (A : Option Addr) (n c : Nat) (w : World) : (Instr.build 36 #[(0, .int .i64 2), (1, .int .i64 id), (3, .slice A n c)]).run Try.prog w = .ok (.agg #[.int .i64 2, .int .i64 id, .int .i64 0, .slice A n c]) w := by kernel_rfl
theorem row_gone {w w' : World} {base n c g : Nat} {A : Option Addr} {bs : List UInt8} {cs : Array Value} (h : OwB w base A n c bs) (hb : Blk w g 74 cs) (hg : w.grownBy w' (some g)) : OwB w' base A n c bs := by
  refine Row.keepRow h hg ?_
  by_cases hc : c = 0
  · left; rw [wrote, if_pos hc]
  · right
    intro e
    obtain ⟨g', cur, rfl, _, hk, _⟩ := OwB.open_ h (by omega)
    rw [wrote, if_neg hc] at e
    simp only [Option.map_some, Option.some.injEq] at e
    subst e
    rw [Blk] at hb hk
    rw [hk] at hb
    simp at hb
theorem row_gone2 {w w' : World} {base n c g : Nat} {A : Option Addr} {bs : List UInt8} {cs : Array Value} (h : OwB w base A n c bs) (hb : Blk w g 42 cs) (hg : w.grownBy w' (some g)) : OwB w' base A n c bs := by
  refine Row.keepRow h hg ?_
  by_cases hc : c = 0
  · left; rw [wrote, if_pos hc]
  · right
    intro e
    obtain ⟨g', cur, rfl, _, hk, _⟩ := OwB.open_ h (by omega)
    rw [wrote, if_neg hc] at e
    simp only [Option.map_some, Option.some.injEq] at e
    subst e
    rw [Blk] at hb hk
    rw [hk] at hb
    simp at hb
theorem sess_ch {tn init st gr nx : Int} {At Ao : Option Addr} {nt ct no co : Nat} {ch dr : List UInt8} (hl : ch.length = 32) (hd : dr.length = 32) : splice (sess tn init At nt ct Ao no co st gr ch nx).toArray 6 (dr.map b8) = (sess tn init At nt ct Ao no co st gr dr nx).toArray := by
  unfold splice sess
  simp only [List.length_map, hd]
  rw [List.take_left' (by rfl), List.drop_append, List.drop_of_length_le (by simp)]
  simp [hl]

set_option maxHeartbeats 4000000 in
theorem hello_ok {w : World} {base gs : Nat} {init : Int} {th ou ch ds dr : List UInt8} {st nx : Int} {gr : Nat} (h : Se w base gs init th ou st (gr : Int) ch nx) (hgr : gr ≤ 1000000) (k x : Int) {A : Option Addr} {m c B : Nat} (hd : SlB w B A m c ds) (hB : B ≤ w.heap.size) (hfar : ∀ b off, A = some ⟨b, off, none⟩ → b ≠ gs) (hm : 16 ≤ m ∧ m ≤ 64) (hou : ou.length ≤ 1048576) (hdr : dr.length = 32) (hbw : base ≤ w.heap.size) (id : Int) (hid : id = (((gr + 1) % 256 : Nat) : Int)) :
    Calls Try.prog 31 #[.pointer (some ⟨gs, 0, none⟩), .agg #[.int .i64 k, .int .i64 init, .int .i64 x, .slice A m c], .agg (arr8 dr)] w fun e w' => (∃ g A' c', e = .returned (.agg #[.slice (some ⟨g, 0, none⟩) 1 1, .bool true, .bool false]) ∧ w.heap.size ≤ g ∧ Blk w' g 36 #[.int .i64 2, .int .i64 id, .int .i64 0, .slice A' 64 c'] ∧ OwB w' w.heap.size A' 64 c' (dr ++ ansOf id ou ds)) ∧ Se w' base gs init th ou 1 ((gr : Int) + 1) dr nx ∧ Below base w w' ∧ Fr [gs] w w' := by
  obtain ⟨v, hv⟩ : ∃ v, v = ((w.alloc (.cells #[.int .i64 k, .int .i64 init, .int .i64 x, .slice A m c] 36)).alloc (.cells (arr8 dr) 34)).alloc (.cells #[.slice none 0 0, .bool false, .bool false] 42) := ⟨_, rfl⟩
  obtain ⟨g5, hg5⟩ : ∃ g, g = w.heap.size + 1 := ⟨_, rfl⟩
  obtain ⟨g6, hg6⟩ : ∃ g, g = w.heap.size + 1 + 1 := ⟨_, rfl⟩
  have b1 : Blk v w.heap.size 36 #[.int .i64 k, .int .i64 init, .int .i64 x, .slice A m c] := by rw [hv]; exact ((Blk.new _ _ _).alloc _).alloc _
  have b5 : Blk v g5 34 (arr8 dr) := by
    have := (Blk.new (w.alloc (.cells #[.int .i64 k, .int .i64 init, .int .i64 x, .slice A m c] 36)) 34 (arr8 dr)).alloc (.cells #[.slice none 0 0, .bool false, .bool false] 42)
    rw [World.size_alloc] at this
    rw [hv, hg5]; exact this
  have b6 : Blk v g6 42 #[.slice none 0 0, .bool false, .bool false] := by
    have := Blk.new ((w.alloc (.cells #[.int .i64 k, .int .i64 init, .int .i64 x, .slice A m c] 36)).alloc (.cells (arr8 dr) 34)) 42 #[.slice none 0 0, .bool false, .bool false]
    rw [World.size_alloc, World.size_alloc] at this
    rw [hv, hg6]; exact this
  have hbv : Below w.heap.size w v := by rw [hv]; exact (((Below.refl _ _).alloc (Nat.le_refl _) _).alloc (by simp) _).alloc (by simp only [World.size_alloc]; omega) _
  have hz := hbv.size
  have hzv := b6.lt
  have hgs := h.lt
  have hG : w.heap.size < g5 ∧ g5 < g6 := by omega
  have HL := Lib.hid hd.len
  have HD := Lib.hid hd
  have H := Lib.hid (h.below hbv)
  have HV := Lib.hid hv
  have HG5 := Lib.hid hg5
  have HG6 := Lib.hid hg6
  have HB1 := Lib.hid b1
  have HB5 := Lib.hid b5
  have HB6 := Lib.hid b6
  have HDR := Lib.hid hdr
  have HID := Lib.hid hid
  clear hv b1 b5 b6 hg5 hg6 hd hdr hid
  have hii : (init != init) = false := by simp
  have hm16 : ¬ (m : Int) < 16 := by omega
  have hm64 : ¬ (64 : Int) < (m : Int) := by omega
  have hd16 : decide ((m : Int) < 16) = false := decide_eq_false hm16
  have hd64 : decide ((64 : Int) < (m : Int)) = false := decide_eq_false hm64
  have hgr0 : (0 : Int) ≤ (gr : Int) := by omega
  have hgrb : (gr : Int) ≤ 1000000 := by omega
  go_enter Try.func31, Try.ntmps31
  go_wp2_with ((with_reducible show wpList _ _ _ (Oper.mk (some 6) (Op.alloc _) _ _ _ _ :: _) _ _); refine wpList_alloc_agg rfl 42 rfl #[.slice none 0 0, .bool false, .bool false] zeroSt ?_; simp only [World.size_alloc]; rw [← HV.out, ← HG6.out, ← HG5.out])
  refine wp_region_rel (fun W W' => Below W.heap.size W W') (fun W => Below v.heap.size v W)
    [Det (.pointer (some ⟨w.heap.size, 1, none⟩)), Det (.int .i64 init), Det (.pointer (some ⟨gs, 0, none⟩)), Det (.pointer (some ⟨gs, 0, none⟩)), Det (.pointer (some ⟨gs, 0, none⟩)), Det (.pointer (some ⟨gs, 1, none⟩)), Det (.int .i64 init), Det (.bool false), Det (.bool false), Det (.pointer (some ⟨w.heap.size, 3, none⟩)), Det (.slice A m c), Det (.int .i64 (m : Int)), Det (.bool false), Det (.bool false), Det (.bool false), Det (.pointer (some ⟨w.heap.size, 3, none⟩)), Det (.slice A m c), Det (.int .i64 (m : Int)), Det (.bool false), Det (.bool false)]
    [[], [(0, some 9)], [], [(2, some 11)], [(3, some 12)], [(4, some 13)], [(5, some 14)], [(1, some 10), (6, some 15)], [(7, some 16)], [(8, some 17)], [(9, some 18), (8, some 17)], [(10, some 19), (8, some 17)], [(11, some 20), (8, some 17)], [(8, some 17), (12, some 21)], [(13, some 22)], [(14, some 23)], [(15, some 24), (14, some 23)], [(16, some 25), (14, some 23)], [(17, some 26), (14, some 23)], [(14, some 23), (18, some 27)]]
    [[], [0], [], [2], [2, 3], [2, 3, 4], [2, 3, 4, 5], [0, 1, 2, 3, 4, 5, 6], [0, 1, 2, 3, 4, 5, 6, 7], [0, 1, 2, 3, 4, 5, 6, 7, 8], [0, 1, 2, 3, 4, 5, 6, 7, 8, 9], [0, 1, 2, 3, 4, 5, 6, 7, 8, 9, 10], [0, 1, 2, 3, 4, 5, 6, 7, 8, 9, 10, 11], [0, 1, 2, 3, 4, 5, 6, 7, 8, 9, 10, 11, 12], [0, 1, 2, 3, 4, 5, 6, 7, 8, 9, 10, 11, 12, 13], [0, 1, 2, 3, 4, 5, 6, 7, 8, 9, 10, 11, 12, 13, 14], [0, 1, 2, 3, 4, 5, 6, 7, 8, 9, 10, 11, 12, 13, 14, 15], [0, 1, 2, 3, 4, 5, 6, 7, 8, 9, 10, 11, 12, 13, 14, 15, 16], [0, 1, 2, 3, 4, 5, 6, 7, 8, 9, 10, 11, 12, 13, 14, 15, 16, 17], [0, 1, 2, 3, 4, 5, 6, 7, 8, 9, 10, 11, 12, 13, 14, 15, 16, 17, 18]]
    [(0, some 9), (1, some 10), (2, some 11), (3, some 12), (4, some 13), (5, some 14), (6, some 15), (7, some 16), (8, some 17), (9, some 18), (10, some 19), (11, some 20), (12, some 21), (13, some 22), (14, some 23), (15, some 24), (16, some 25), (17, some 26), (18, some 27), (19, some 28)] (by kernel_rfl) (by kernel_rfl) (fun W W' h1 h2 => h1.trans (h2.mono h1.size)) ((Below.refl _ _).drew) ?_ ?_ ?_
  · exact (AllMono.cons Det.later (AllMono.cons Det.later (AllMono.cons Det.later (AllMono.cons Det.later (AllMono.cons Det.later (AllMono.cons Det.later (AllMono.cons Det.later (AllMono.cons Det.later (AllMono.cons Det.later (AllMono.cons Det.later (AllMono.cons Det.later (AllMono.cons Det.later (AllMono.cons Det.later (AllMono.cons Det.later (AllMono.cons Det.later (AllMono.cons Det.later (AllMono.cons Det.later (AllMono.cons Det.later (AllMono.cons Det.later (AllMono.cons Det.later AllMono.nil))))))))))))))))))))
  · refine AllOb.cons ?_ (AllOb.cons ?_ (AllOb.cons ?_ (AllOb.cons ?_ (AllOb.cons ?_ (AllOb.cons ?_ (AllOb.cons ?_ (AllOb.cons ?_ (AllOb.cons ?_ (AllOb.cons ?_ (AllOb.cons ?_ (AllOb.cons ?_ (AllOb.cons ?_ (AllOb.cons ?_ (AllOb.cons ?_ (AllOb.cons ?_ (AllOb.cons ?_ (AllOb.cons ?_ (AllOb.cons ?_ (AllOb.cons ?_ (AllOb.nil))))))))))))))))))))
    · intro uF W hC' hU aF hF
      have hC : Below v.heap.size v W := hC'
      clear hC'
      simp only [puts] at hF
      subst hF
      go_wp2_with (fail)
      exact ⟨rfl, rfl, (Below.refl _ _), rfl⟩
    · intro uF W hC' hU aF hF
      have hC : Below v.heap.size v W := hC'
      clear hC'
      have h9 : (Det (.pointer (some ⟨w.heap.size, 1, none⟩))) (uF 0) W := hU.1
      clear hU
      simp only [puts, Act.put, List.setIfInBounds_toArray, List.set_cons_zero, List.set_cons_succ] at hF
      generalize uF 0 = x9 at h9 hF
      obtain rfl : x9 = (.pointer (some ⟨w.heap.size, 1, none⟩)) := h9
      subst hF
      have d1 : W.cell? ⟨w.heap.size, 1, none⟩ = some (.int .i64 init) := by rw [(HB1.out.below hC HB1.out.lt).cell]; rfl
      go_wp2_with (fail)
      exact ⟨rfl, rfl, (Below.refl _ _), rfl⟩
    · intro uF W hC' hU aF hF
      have hC : Below v.heap.size v W := hC'
      clear hC'
      simp only [puts] at hF
      subst hF
      go_wp2_with (fail)
      exact ⟨rfl, rfl, (Below.refl _ _), rfl⟩
    · intro uF W hC' hU aF hF
      have hC : Below v.heap.size v W := hC'
      clear hC'
      have h11 : (Det (.pointer (some ⟨gs, 0, none⟩))) (uF 2) W := hU.1
      clear hU
      simp only [puts, Act.put, List.setIfInBounds_toArray, List.set_cons_zero, List.set_cons_succ] at hF
      generalize uF 2 = x11 at h11 hF
      obtain rfl : x11 = (.pointer (some ⟨gs, 0, none⟩)) := h11
      subst hF
      go_wp2_with (fail)
      exact ⟨rfl, rfl, (Below.refl _ _), rfl⟩
    · intro uF W hC' hU aF hF
      have hC : Below v.heap.size v W := hC'
      clear hC'
      have h12 : (Det (.pointer (some ⟨gs, 0, none⟩))) (uF 3) W := hU.1
      clear hU
      simp only [puts, Act.put, List.setIfInBounds_toArray, List.set_cons_zero, List.set_cons_succ] at hF
      generalize uF 3 = x12 at h12 hF
      obtain rfl : x12 = (.pointer (some ⟨gs, 0, none⟩)) := h12
      subst hF
      go_wp2_with (fail)
      exact ⟨rfl, rfl, (Below.refl _ _), rfl⟩
    · intro uF W hC' hU aF hF
      have hC : Below v.heap.size v W := hC'
      clear hC'
      have h13 : (Det (.pointer (some ⟨gs, 0, none⟩))) (uF 4) W := hU.1
      clear hU
      simp only [puts, Act.put, List.setIfInBounds_toArray, List.set_cons_zero, List.set_cons_succ] at hF
      generalize uF 4 = x13 at h13 hF
      obtain rfl : x13 = (.pointer (some ⟨gs, 0, none⟩)) := h13
      subst hF
      go_wp2_with (fail)
      exact ⟨rfl, rfl, (Below.refl _ _), rfl⟩
    · intro uF W hC' hU aF hF
      have hC : Below v.heap.size v W := hC'
      clear hC'
      have h14 : (Det (.pointer (some ⟨gs, 1, none⟩))) (uF 5) W := hU.1
      clear hU
      simp only [puts, Act.put, List.setIfInBounds_toArray, List.set_cons_zero, List.set_cons_succ] at hF
      generalize uF 5 = x14 at h14 hF
      obtain rfl : x14 = (.pointer (some ⟨gs, 1, none⟩)) := h14
      subst hF
      have d2 := (H.out.below hC).c1
      go_wp2_with (fail)
      exact ⟨rfl, rfl, (Below.refl _ _), rfl⟩
    · intro uF W hC' hU aF hF
      have hC : Below v.heap.size v W := hC'
      clear hC'
      have h10 : (Det (.int .i64 init)) (uF 1) W := hU.1
      have h15 : (Det (.int .i64 init)) (uF 6) W := hU.2.1
      clear hU
      simp only [puts, Act.put, List.setIfInBounds_toArray, List.set_cons_zero, List.set_cons_succ] at hF
      generalize uF 1 = x10 at h10 hF
      generalize uF 6 = x15 at h15 hF
      obtain rfl : x10 = (.int .i64 init) := h10
      obtain rfl : x15 = (.int .i64 init) := h15
      subst hF
      go_wp2_with (fail)
      exact ⟨rfl, rfl, (Below.refl _ _), rfl⟩
    · intro uF W hC' hU aF hF
      have hC : Below v.heap.size v W := hC'
      clear hC'
      have h16 : (Det (.bool false)) (uF 7) W := hU.1
      clear hU
      simp only [puts, Act.put, List.setIfInBounds_toArray, List.set_cons_zero, List.set_cons_succ] at hF
      generalize uF 7 = x16 at h16 hF
      obtain rfl : x16 = (.bool false) := h16
      subst hF
      go_wp2_with (fail)
      exact ⟨rfl, rfl, (Below.refl _ _), rfl⟩
    · intro uF W hC' hU aF hF
      have hC : Below v.heap.size v W := hC'
      clear hC'
      have h17 : (Det (.bool false)) (uF 8) W := hU.1
      clear hU
      simp only [puts, Act.put, List.setIfInBounds_toArray, List.set_cons_zero, List.set_cons_succ] at hF
      generalize uF 8 = x17 at h17 hF
      obtain rfl : x17 = (.bool false) := h17
      subst hF
      go_wp2_with (fail)
      exact ⟨rfl, rfl, (Below.refl _ _), rfl⟩
    · intro uF W hC' hU aF hF
      have hC : Below v.heap.size v W := hC'
      clear hC'
      have h18 : (Det (.pointer (some ⟨w.heap.size, 3, none⟩))) (uF 9) W := hU.1
      have h17 : (Det (.bool false)) (uF 8) W := hU.2.1
      clear hU
      simp only [puts, Act.put, List.setIfInBounds_toArray, List.set_cons_zero, List.set_cons_succ] at hF
      generalize uF 9 = x18 at h18 hF
      generalize uF 8 = x17 at h17 hF
      obtain rfl : x18 = (.pointer (some ⟨w.heap.size, 3, none⟩)) := h18
      obtain rfl : x17 = (.bool false) := h17
      subst hF
      have d3 : W.cell? ⟨w.heap.size, 3, none⟩ = some (.slice A m c) := by rw [(HB1.out.below hC HB1.out.lt).cell]; rfl
      go_wp2_with (fail)
      exact ⟨rfl, rfl, (Below.refl _ _), rfl⟩
    · intro uF W hC' hU aF hF
      have hC : Below v.heap.size v W := hC'
      clear hC'
      have h19 : (Det (.slice A m c)) (uF 10) W := hU.1
      have h17 : (Det (.bool false)) (uF 8) W := hU.2.1
      clear hU
      simp only [puts, Act.put, List.setIfInBounds_toArray, List.set_cons_zero, List.set_cons_succ] at hF
      generalize uF 10 = x19 at h19 hF
      generalize uF 8 = x17 at h17 hF
      obtain rfl : x19 = (.slice A m c) := h19
      obtain rfl : x17 = (.bool false) := h17
      subst hF
      go_wp2_with (fail)
      exact ⟨rfl, rfl, (Below.refl _ _), rfl⟩
    · intro uF W hC' hU aF hF
      have hC : Below v.heap.size v W := hC'
      clear hC'
      have h20 : (Det (.int .i64 (m : Int))) (uF 11) W := hU.1
      have h17 : (Det (.bool false)) (uF 8) W := hU.2.1
      clear hU
      simp only [puts, Act.put, List.setIfInBounds_toArray, List.set_cons_zero, List.set_cons_succ] at hF
      generalize uF 11 = x20 at h20 hF
      generalize uF 8 = x17 at h17 hF
      obtain rfl : x20 = (.int .i64 (m : Int)) := h20
      obtain rfl : x17 = (.bool false) := h17
      subst hF
      go_wp2_with (fail)
      exact ⟨rfl, rfl, (Below.refl _ _), rfl⟩
    · intro uF W hC' hU aF hF
      have hC : Below v.heap.size v W := hC'
      clear hC'
      have h17 : (Det (.bool false)) (uF 8) W := hU.1
      have h21 : (Det (.bool false)) (uF 12) W := hU.2.1
      clear hU
      simp only [puts, Act.put, List.setIfInBounds_toArray, List.set_cons_zero, List.set_cons_succ] at hF
      generalize uF 8 = x17 at h17 hF
      generalize uF 12 = x21 at h21 hF
      obtain rfl : x17 = (.bool false) := h17
      obtain rfl : x21 = (.bool false) := h21
      subst hF
      go_wp2_with (fail)
      exact ⟨rfl, rfl, (Below.refl _ _), rfl⟩
    · intro uF W hC' hU aF hF
      have hC : Below v.heap.size v W := hC'
      clear hC'
      have h22 : (Det (.bool false)) (uF 13) W := hU.1
      clear hU
      simp only [puts, Act.put, List.setIfInBounds_toArray, List.set_cons_zero, List.set_cons_succ] at hF
      generalize uF 13 = x22 at h22 hF
      obtain rfl : x22 = (.bool false) := h22
      subst hF
      go_wp2_with (fail)
      exact ⟨rfl, rfl, (Below.refl _ _), rfl⟩
    · intro uF W hC' hU aF hF
      have hC : Below v.heap.size v W := hC'
      clear hC'
      have h23 : (Det (.bool false)) (uF 14) W := hU.1
      clear hU
      simp only [puts, Act.put, List.setIfInBounds_toArray, List.set_cons_zero, List.set_cons_succ] at hF
      generalize uF 14 = x23 at h23 hF
      obtain rfl : x23 = (.bool false) := h23
      subst hF
      go_wp2_with (fail)
      exact ⟨rfl, rfl, (Below.refl _ _), rfl⟩
    · intro uF W hC' hU aF hF
      have hC : Below v.heap.size v W := hC'
      clear hC'
      have h24 : (Det (.pointer (some ⟨w.heap.size, 3, none⟩))) (uF 15) W := hU.1
      have h23 : (Det (.bool false)) (uF 14) W := hU.2.1
      clear hU
      simp only [puts, Act.put, List.setIfInBounds_toArray, List.set_cons_zero, List.set_cons_succ] at hF
      generalize uF 15 = x24 at h24 hF
      generalize uF 14 = x23 at h23 hF
      obtain rfl : x24 = (.pointer (some ⟨w.heap.size, 3, none⟩)) := h24
      obtain rfl : x23 = (.bool false) := h23
      subst hF
      have d3 : W.cell? ⟨w.heap.size, 3, none⟩ = some (.slice A m c) := by rw [(HB1.out.below hC HB1.out.lt).cell]; rfl
      go_wp2_with (fail)
      exact ⟨rfl, rfl, (Below.refl _ _), rfl⟩
    · intro uF W hC' hU aF hF
      have hC : Below v.heap.size v W := hC'
      clear hC'
      have h25 : (Det (.slice A m c)) (uF 16) W := hU.1
      have h23 : (Det (.bool false)) (uF 14) W := hU.2.1
      clear hU
      simp only [puts, Act.put, List.setIfInBounds_toArray, List.set_cons_zero, List.set_cons_succ] at hF
      generalize uF 16 = x25 at h25 hF
      generalize uF 14 = x23 at h23 hF
      obtain rfl : x25 = (.slice A m c) := h25
      obtain rfl : x23 = (.bool false) := h23
      subst hF
      go_wp2_with (fail)
      exact ⟨rfl, rfl, (Below.refl _ _), rfl⟩
    · intro uF W hC' hU aF hF
      have hC : Below v.heap.size v W := hC'
      clear hC'
      have h26 : (Det (.int .i64 (m : Int))) (uF 17) W := hU.1
      have h23 : (Det (.bool false)) (uF 14) W := hU.2.1
      clear hU
      simp only [puts, Act.put, List.setIfInBounds_toArray, List.set_cons_zero, List.set_cons_succ] at hF
      generalize uF 17 = x26 at h26 hF
      generalize uF 14 = x23 at h23 hF
      obtain rfl : x26 = (.int .i64 (m : Int)) := h26
      obtain rfl : x23 = (.bool false) := h23
      subst hF
      go_wp2_with (fail)
      exact ⟨rfl, rfl, (Below.refl _ _), rfl⟩
    · intro uF W hC' hU aF hF
      have hC : Below v.heap.size v W := hC'
      clear hC'
      have h23 : (Det (.bool false)) (uF 14) W := hU.1
      have h27 : (Det (.bool false)) (uF 18) W := hU.2.1
      clear hU
      simp only [puts, Act.put, List.setIfInBounds_toArray, List.set_cons_zero, List.set_cons_succ] at hF
      generalize uF 14 = x23 at h23 hF
      generalize uF 18 = x27 at h27 hF
      obtain rfl : x23 = (.bool false) := h23
      obtain rfl : x27 = (.bool false) := h27
      subst hF
      go_wp2_with (fail)
      exact ⟨rfl, rfl, (Below.refl _ _), rfl⟩
  intro uF W1 hC' hU aF hF
  have hCW1 : Below v.heap.size v W1 := hC'
  clear hC'
  have h28 : (Det (.bool false)) (uF 19) W1 := hU.2.2.2.2.2.2.2.2.2.2.2.2.2.2.2.2.2.2.2.1
  clear hU
  simp only [puts, Act.put, List.setIfInBounds_toArray, List.set_cons_zero, List.set_cons_succ] at hF
  generalize uF 0 = x9 at hF
  generalize uF 1 = x10 at hF
  generalize uF 2 = x11 at hF
  generalize uF 3 = x12 at hF
  generalize uF 4 = x13 at hF
  generalize uF 5 = x14 at hF
  generalize uF 6 = x15 at hF
  generalize uF 7 = x16 at hF
  generalize uF 8 = x17 at hF
  generalize uF 9 = x18 at hF
  generalize uF 10 = x19 at hF
  generalize uF 11 = x20 at hF
  generalize uF 12 = x21 at hF
  generalize uF 13 = x22 at hF
  generalize uF 14 = x23 at hF
  generalize uF 15 = x24 at hF
  generalize uF 16 = x25 at hF
  generalize uF 17 = x26 at hF
  generalize uF 18 = x27 at hF
  generalize uF 19 = x28 at h28 hF
  obtain rfl : x28 = (.bool false) := h28
  subst hF
  have hz1 := hCW1.size
  have s1 := H.out.below hCW1
  have d51 := s1.c5
  have f51 := s1.fz 5
  obtain ⟨V3, hV3⟩ : ∃ V3, V3 = W1.setCell ⟨gs, 5, none⟩ (.int .i64 ((gr : Int) + 1)) := ⟨_, rfl⟩
  have s3 := s1.setGr ((gr : Int) + 1)
  rw [← hV3] at s3
  have hz3 : W1.heap.size ≤ V3.heap.size := by rw [hV3, World.size_setCell]; exact Nat.le_refl _
  have hw3 : Below base w V3 := by rw [hV3]; exact ((hbv.mono hbw).trans (hCW1.mono (by omega))).setCell (p := ⟨gs, 5, none⟩) h.hb _
  have hb3 : Below w.heap.size w W1 := hbv.trans (hCW1.mono hz)
  have b13 : Blk V3 w.heap.size 36 #[.int .i64 k, .int .i64 init, .int .i64 x, .slice A m c] := by rw [hV3]; exact (HB1.out.below hCW1 HB1.out.lt).far (by show w.heap.size ≠ gs; omega) _
  have b53 : Blk V3 g5 34 (arr8 dr) := by rw [hV3]; exact (HB5.out.below hCW1 HB5.out.lt).far (by show g5 ≠ gs; omega) _
  have b63 : Blk V3 g6 42 #[.slice none 0 0, .bool false, .bool false] := by rw [hV3]; exact (HB6.out.below hCW1 HB6.out.lt).far (by show g6 ≠ gs; omega) _
  obtain ⟨tn, At, nt, ct, Ao, no, co, h1, h2, h3⟩ := s3.cells
  have HF3 := Lib.hid (show Fr [gs] w V3 by rw [hV3]; exact ((Fr.below hbv).trans (Fr.below hCW1)).grown (grownBy_setCell _ gs 5 _) (.inl (by simp)))
  have HV3 := Lib.hid hV3
  have HC1 := Lib.hid h1
  have HC2 := Lib.hid h2
  have HC3 := Lib.hid h3
  have hch := s3.lch
  clear hV3 h1 h2 h3 s1 s3
  go_wp2_with (first
    | ((with_reducible show wpList _ _ _ (Oper.mk (some 39) (Op.load 34 _) _ _ _ _ :: _) _ _); rw [← HV3.out]; refine wpList_load_whole rfl 34 (.tmp 5) rfl g5 rfl (arr8 dr) agg44 (by rw [size_arr8]; exact HDR.out) _ b53 ?_)
    | ((with_reducible show wpList _ _ _ (Oper.mk none (Op.store 34 (.tmp 41) _) _ _ _ _ :: _) _ _); refine wpList_store_agg rfl 34 (.tmp 41) (.tmp 39) rfl gs 6 rfl (dr.map b8) rfl agg44 (by simpa using HDR.out) _ _ HC1.out (by simp [sess, hch, HDR.out]) (b8_one _) ?_; intro V4 c4 g4 s4; rw [sess_ch hch HDR.out] at c4; have b14 := b13.grown g4 (by simp; omega); have b54 := b53.grown g4 (by simp; omega); have b64 := b63.grown g4 (by simp; omega); have o24 := row_gone HC2.out HC1.out g4; have o34 := row_gone HC3.out HC1.out g4; have hw4 := hw3.grown g4 (by omega) (fun k hk => by cases hk; exact h.hb); have d44 : V4.cell? ⟨gs, 4, none⟩ = some (.int .i64 st) := (by rw [c4.cell]; rfl); have f44 := c4.frozen 4; have S4 := Lib.hid (show Se V4 base gs init th ou st ((gr : Int) + 1) dr nx from ⟨⟨tn, At, nt, ct, Ao, no, co, c4, o24, o34⟩, HDR.out, h.hb⟩); have HF4 := Lib.hid (HF3.out.grown g4 (.inl (by simp))); clear g4))
  obtain ⟨V5, hV5⟩ : ∃ V5, V5 = V4.setCell ⟨gs, 4, none⟩ (.int .i64 1) := ⟨_, rfl⟩
  rw [← hV5]
  have s5 := S4.out.setSt 1
  rw [← hV5] at s5
  have hz45 : V4.heap.size ≤ V5.heap.size := by rw [hV5, World.size_setCell]; exact Nat.le_refl _
  have b15 : Blk V5 w.heap.size 36 #[.int .i64 k, .int .i64 init, .int .i64 x, .slice A m c] := by rw [hV5]; exact b14.far (by show w.heap.size ≠ gs; omega) _
  have b55 : Blk V5 g5 34 (arr8 dr) := by rw [hV5]; exact b54.far (by show g5 ≠ gs; omega) _
  have b65 : Blk V5 g6 42 #[.slice none 0 0, .bool false, .bool false] := by rw [hV5]; exact b64.far (by show g6 ≠ gs; omega) _
  have hw5 : Below base w V5 := by rw [hV5]; exact hw4.setCell (p := ⟨gs, 4, none⟩) h.hb _
  have hl65 := b65.lt
  have HF5 := Lib.hid (show Fr [gs] w V5 by rw [hV5]; exact HF4.out.grown (grownBy_setCell _ gs 4 _) (.inl (by simp)))
  obtain ⟨tn5, At5, nt5, ct5, Ao5, no5, co5, k1, k2, k3⟩ := s5.cells
  have hlo := k3.len
  have HK1 := Lib.hid k1
  have HK3 := Lib.hid k3
  have HS5 := Lib.hid s5
  have HB15 := Lib.hid b15
  have HB55 := Lib.hid b55
  have HB65 := Lib.hid b65
  have HDS := Lib.hid ((slN_keep HD.out hB hfar HF5.out).more (Nat.le_trans hB HF5.out.1))
  clear hV5 s5 b14 b54 b64 o24 o34 c4 d44 f44 b13 b53 b63 b15 b55 b65 k1 k2 k3
  refine Code.wp_mono (Q := Exit.then (fun a' W7 => ∃ g7, (∃ y9 y10 y11 y12 y13 y14 y15 y16 y17 y18 y19 y20 y21 y22 y23 y24 y25 y26 y27 y28 y29 y30 y31 y32 y33 y34 y35 y36 y37 y38 y39 y40 y41 y42 y43 y44 y45 y46 y47 y48 y49 y50 y51 y52 y53 : Value, a' = { tmps := #[.pointer (some ⟨gs, 0, none⟩), .agg #[.int .i64 k, .int .i64 init, .int .i64 x, .slice A m c], .agg (arr8 dr), undef, .pointer (some ⟨w.heap.size, 0, none⟩), .pointer (some ⟨g5, 0, none⟩), .pointer (some ⟨g6, 0, none⟩), .pointer (some ⟨g7, 0, none⟩), undef, y9, y10, y11, y12, y13, y14, y15, y16, y17, y18, y19, y20, y21, y22, y23, y24, y25, y26, y27, y28, y29, y30, y31, y32, y33, y34, y35, y36, y37, y38, y39, y40, y41, y42, y43, y44, y45, y46, y47, y48, y49, y50, y51, y52, y53, undef, undef, undef, undef, undef, undef, undef, undef, undef, undef], defers := [] }) ∧ V5.heap.size ≤ g7 ∧ Blk W7 g7 34 (arr8 (ansOf id ou ds)) ∧ Below V5.heap.size V5 W7) (fun _ _ _ => False)) ?_ ?_
  rotate_left
  · refine (wpIn_wide (n := 4)).1 ?_
    refine wpIn_region_rel free_wide rfl 11 (fun W W' => Below W.heap.size W W') (fun W => Below V5.heap.size V5 W)
      [Det (.pointer (some ⟨gs, 0, none⟩)), Det (.int .i64 id), Det (.pointer (some ⟨gs, 0, none⟩)), Det (.pointer (some ⟨gs, 0, none⟩)), Det (.pointer (some ⟨gs, 0, none⟩)), Det (.pointer (some ⟨gs, 3, none⟩)), Det (.slice Ao5 no5 co5), Det (.pointer (some ⟨w.heap.size, 3, none⟩)), Det (.slice A m c), Det (.agg (arr8 (ansOf id ou ds))), RelW V5.heap.size 34 (arr8 (z8' 32)), Any]
      [[], [(0, some 44)], [], [(2, some 46)], [(3, some 47)], [(4, some 48)], [(5, some 49)], [], [(7, some 51)], [(1, some 45), (6, some 50), (8, some 52)], [], [(10, some 7), (9, some 53)]]
      [[], [0], [], [2], [2, 3], [2, 3, 4], [2, 3, 4, 5], [], [7], [0, 1, 2, 3, 4, 5, 6, 7, 8], [], [0, 1, 2, 3, 4, 5, 6, 7, 8, 9, 10]]
      [(0, some 44), (1, some 45), (2, some 46), (3, some 47), (4, some 48), (5, some 49), (6, some 50), (7, some 51), (8, some 52), (9, some 53), (10, some 7), (11, none)] (by kernel_rfl) (by kernel_rfl) (by kernel_rfl) (fun W W' h1 h2 => h1.trans (h2.mono h1.size)) ((Below.refl _ _).drew) ?_ ?_ ?_
    · exact (AllMono.cons Det.later (AllMono.cons Det.later (AllMono.cons Det.later (AllMono.cons Det.later (AllMono.cons Det.later (AllMono.cons Det.later (AllMono.cons Det.later (AllMono.cons Det.later (AllMono.cons Det.later (AllMono.cons Det.later (AllMono.cons RelW.later (AllMono.cons Any.later AllMono.nil))))))))))))
    · refine AllOb.cons ?_ (AllOb.cons ?_ (AllOb.cons ?_ (AllOb.cons ?_ (AllOb.cons ?_ (AllOb.cons ?_ (AllOb.cons ?_ (AllOb.cons ?_ (AllOb.cons ?_ (AllOb.cons ?_ (AllOb.cons ?_ (AllOb.nil)))))))))))
      · intro uF W hC' hU aF hF
        have hC : Below V5.heap.size V5 W := hC'
        clear hC'
        simp only [puts] at hF
        subst hF
        go_wp2_with (fail)
        exact ⟨rfl, rfl, (Below.refl _ _), rfl⟩
      · intro uF W hC' hU aF hF
        have hC : Below V5.heap.size V5 W := hC'
        clear hC'
        have h44 : (Det (.pointer (some ⟨gs, 0, none⟩))) (uF 0) W := hU.1
        clear hU
        simp only [puts, Act.put, List.setIfInBounds_toArray, List.set_cons_zero, List.set_cons_succ] at hF
        generalize uF 0 = x44 at h44 hF
        obtain rfl : x44 = (.pointer (some ⟨gs, 0, none⟩)) := h44
        subst hF
        go_wp2_with ((go_at_call 45; refine (id_c (gr := gr + 1) (HS5.out.below hC)).mono ?_; rintro e W1 ⟨rfl, rfl⟩; rw [← HID.out]))
        exact ⟨rfl, rfl, (Below.refl _ _), rfl⟩
      · intro uF W hC' hU aF hF
        have hC : Below V5.heap.size V5 W := hC'
        clear hC'
        simp only [puts] at hF
        subst hF
        go_wp2_with (fail)
        exact ⟨rfl, rfl, (Below.refl _ _), rfl⟩
      · intro uF W hC' hU aF hF
        have hC : Below V5.heap.size V5 W := hC'
        clear hC'
        have h46 : (Det (.pointer (some ⟨gs, 0, none⟩))) (uF 2) W := hU.1
        clear hU
        simp only [puts, Act.put, List.setIfInBounds_toArray, List.set_cons_zero, List.set_cons_succ] at hF
        generalize uF 2 = x46 at h46 hF
        obtain rfl : x46 = (.pointer (some ⟨gs, 0, none⟩)) := h46
        subst hF
        go_wp2_with (fail)
        exact ⟨rfl, rfl, (Below.refl _ _), rfl⟩
      · intro uF W hC' hU aF hF
        have hC : Below V5.heap.size V5 W := hC'
        clear hC'
        have h47 : (Det (.pointer (some ⟨gs, 0, none⟩))) (uF 3) W := hU.1
        clear hU
        simp only [puts, Act.put, List.setIfInBounds_toArray, List.set_cons_zero, List.set_cons_succ] at hF
        generalize uF 3 = x47 at h47 hF
        obtain rfl : x47 = (.pointer (some ⟨gs, 0, none⟩)) := h47
        subst hF
        go_wp2_with (fail)
        exact ⟨rfl, rfl, (Below.refl _ _), rfl⟩
      · intro uF W hC' hU aF hF
        have hC : Below V5.heap.size V5 W := hC'
        clear hC'
        have h48 : (Det (.pointer (some ⟨gs, 0, none⟩))) (uF 4) W := hU.1
        clear hU
        simp only [puts, Act.put, List.setIfInBounds_toArray, List.set_cons_zero, List.set_cons_succ] at hF
        generalize uF 4 = x48 at h48 hF
        obtain rfl : x48 = (.pointer (some ⟨gs, 0, none⟩)) := h48
        subst hF
        go_wp2_with (fail)
        exact ⟨rfl, rfl, (Below.refl _ _), rfl⟩
      · intro uF W hC' hU aF hF
        have hC : Below V5.heap.size V5 W := hC'
        clear hC'
        have h49 : (Det (.pointer (some ⟨gs, 3, none⟩))) (uF 5) W := hU.1
        clear hU
        simp only [puts, Act.put, List.setIfInBounds_toArray, List.set_cons_zero, List.set_cons_succ] at hF
        generalize uF 5 = x49 at h49 hF
        obtain rfl : x49 = (.pointer (some ⟨gs, 3, none⟩)) := h49
        subst hF
        have d1 : W.cell? ⟨gs, 3, none⟩ = some (.slice Ao5 no5 co5) := by rw [(HK1.out.below hC HK1.out.lt).cell]; rfl
        go_wp2_with (fail)
        exact ⟨rfl, rfl, (Below.refl _ _), rfl⟩
      · intro uF W hC' hU aF hF
        have hC : Below V5.heap.size V5 W := hC'
        clear hC'
        simp only [puts] at hF
        subst hF
        go_wp2_with (fail)
        exact ⟨rfl, rfl, (Below.refl _ _), rfl⟩
      · intro uF W hC' hU aF hF
        have hC : Below V5.heap.size V5 W := hC'
        clear hC'
        have h51 : (Det (.pointer (some ⟨w.heap.size, 3, none⟩))) (uF 7) W := hU.1
        clear hU
        simp only [puts, Act.put, List.setIfInBounds_toArray, List.set_cons_zero, List.set_cons_succ] at hF
        generalize uF 7 = x51 at h51 hF
        obtain rfl : x51 = (.pointer (some ⟨w.heap.size, 3, none⟩)) := h51
        subst hF
        have d3 : W.cell? ⟨w.heap.size, 3, none⟩ = some (.slice A m c) := by rw [(HB15.out.below hC HB15.out.lt).cell]; rfl
        go_wp2_with (fail)
        exact ⟨rfl, rfl, (Below.refl _ _), rfl⟩
      · intro uF W hC' hU aF hF
        have hC : Below V5.heap.size V5 W := hC'
        clear hC'
        have h45 : (Det (.int .i64 id)) (uF 1) W := hU.1
        have h50 : (Det (.slice Ao5 no5 co5)) (uF 6) W := hU.2.1
        have h52 : (Det (.slice A m c)) (uF 8) W := hU.2.2.1
        clear hU
        simp only [puts, Act.put, List.setIfInBounds_toArray, List.set_cons_zero, List.set_cons_succ] at hF
        generalize uF 1 = x45 at h45 hF
        generalize uF 6 = x50 at h50 hF
        generalize uF 8 = x52 at h52 hF
        obtain rfl : x45 = (.int .i64 id) := h45
        obtain rfl : x50 = (.slice Ao5 no5 co5) := h50
        obtain rfl : x52 = (.slice A m c) := h52
        subst hF
        go_wp2_with ((go_at_call 44; refine (answer_c id (OwB.sl (OwB.below HK3.out hC)) ((HDS.out.below hC).more hC.size) (Nat.le_refl _) (by omega) (by omega)).mono ?_; rintro e W1 ⟨rfl, hb⟩))
        exact ⟨rfl, rfl, hb, rfl⟩
      · intro uF W hC' hU aF hF
        have hC : Below V5.heap.size V5 W := hC'
        clear hC'
        simp only [puts] at hF
        subst hF
        go_wp2_with (((with_reducible show wpList _ _ _ (Oper.mk (some 7) (Op.alloc _) _ _ _ _ :: _) _ _); refine wpList_alloc_agg (by rfl) 34 rfl (arr8 (z8' 32)) zero44 ?_))
        exact ⟨rfl, rfl, (below_alloc _ _), ⟨_, rfl, hC.size, Blk.new _ _ _⟩⟩
    intro uF W6 hC' hU aF hF
    have hCW6 : Below V5.heap.size V5 W6 := hC'
    clear hC'
    have h53 : (Det (.agg (arr8 (ansOf id ou ds)))) (uF 9) W6 := hU.2.2.2.2.2.2.2.2.2.1
    have h7 : (RelW V5.heap.size 34 (arr8 (z8' 32))) (uF 10) W6 := hU.2.2.2.2.2.2.2.2.2.2.1
    clear hU
    simp only [List.take_succ_cons, List.take_zero, puts, Act.put, List.setIfInBounds_toArray, List.set_cons_zero, List.set_cons_succ] at hF
    generalize uF 0 = x44 at hF
    generalize uF 1 = x45 at hF
    generalize uF 2 = x46 at hF
    generalize uF 3 = x47 at hF
    generalize uF 4 = x48 at hF
    generalize uF 5 = x49 at hF
    generalize uF 6 = x50 at hF
    generalize uF 7 = x51 at hF
    generalize uF 8 = x52 at hF
    generalize uF 9 = x53 at h53 hF
    generalize uF 10 = x7 at h7 hF
    obtain rfl : x53 = (.agg (arr8 (ansOf id ou ds))) := h53
    obtain ⟨g7, rfl, z7, b7⟩ := h7
    subst hF
    simp only [List.drop_succ_cons, List.drop_zero]
    refine wpListIn_of free_wide (fun ⟨_, _, h⟩ => h) rfl ?_
    refine wpList_store8 rfl 34 (.tmp 7) (.tmp 53) rfl g7 rfl (ansOf id ou ds) rfl agg44 (len_ansOf _ _ _) _ _ b7 (by rw [size_arr8, len_z8']) ?_
    intro W7 b77 g77 s77
    exact wpList_nil ⟨g7, ⟨_, _, _, _, _, _, _, _, _, _, _, _, _, _, _, _, _, _, _, _, _, _, _, _, _, _, _, _, _, _, _, _, _, _, _, _, _, _, _, _, _, _, _, _, _, rfl⟩, z7, b77, hCW6.grown g77 hCW6.size (fun k hk => by cases hk; exact z7)⟩
  rintro e a' W7 hh
  cases e with
  | normal =>
    obtain ⟨g7, ⟨y9, y10, y11, y12, y13, y14, y15, y16, y17, y18, y19, y20, y21, y22, y23, y24, y25, y26, y27, y28, y29, y30, y31, y32, y33, y34, y35, y36, y37, y38, y39, y40, y41, y42, y43, y44, y45, y46, y47, y48, y49, y50, y51, y52, y53, rfl⟩, z7, b77, hb7⟩ := hh
    have s7 := HS5.out.below hb7
    have hz7 := hb7.size
    have HS7 := Lib.hid s7
    have HB57 := Lib.hid (HB55.out.below hb7 HB55.out.lt)
    have HB67 := Lib.hid (HB65.out.below hb7 HB65.out.lt)
    have HB77 := Lib.hid b77
    have hl77 := b77.lt
    have hall5 := arr_off_run (P := Try.prog) (T := 34) Try.underlying34 size1 (by omega) g5 0
    have hall7 := arr_off_run (P := Try.prog) (T := 34) Try.underlying34 size1 (by omega) g7 0
    have hB2 := buildFr2 id
    have hlan := len_ansOf id ou ds
    have HAN := Lib.hid hlan
    clear s7 b77 hlan
    go_wp2_with fail
    refine Code.wp_mono (Q := Exit.then (fun a' W8 => ∃ g8 g A' c', (∃ z54' z55' z56' z57' z58' z59' z60' z61' : Value, a' = { tmps := #[.pointer (some ⟨gs, 0, none⟩), .agg #[.int .i64 k, .int .i64 init, .int .i64 x, .slice A m c], .agg (arr8 dr), undef, .pointer (some ⟨w.heap.size, 0, none⟩), .pointer (some ⟨g5, 0, none⟩), .pointer (some ⟨g6, 0, none⟩), .pointer (some ⟨g7, 0, none⟩), .pointer (some ⟨g8, 0, none⟩), y9, y10, y11, y12, y13, y14, y15, y16, y17, y18, y19, y20, y21, y22, y23, y24, y25, y26, y27, y28, y29, y30, y31, y32, y33, y34, y35, y36, y37, y38, y39, y40, y41, y42, y43, y44, y45, y46, y47, y48, y49, y50, y51, y52, y53, z54', z55', z56', z57', z58', z59', z60', z61', undef, undef], defers := [] }) ∧ W7.heap.size ≤ g8 ∧ W7.heap.size ≤ g ∧ Blk W8 g8 42 #[.slice (some ⟨g, 0, none⟩) 1 1, .bool false, .bool false] ∧ Blk W8 g 36 #[.int .i64 2, .int .i64 id, .int .i64 0, .slice A' 64 c'] ∧ OwB W8 W7.heap.size A' 64 c' (dr ++ ansOf id ou ds) ∧ Below W7.heap.size W7 W8) (fun _ _ _ => False)) ?_ ?_
    rotate_left
    · refine (wpIn_wide (n := 4)).1 ?_
      refine wpIn_region_rel free_wide rfl 9 (fun W W' => Below W.heap.size W W') (fun W => Below W7.heap.size W7 W)
        [Det (.pointer (some ⟨gs, 0, none⟩)), Det (.int .i64 id), Det (.slice (some ⟨g5, 0, none⟩) 32 32), Det (.slice (some ⟨g7, 0, none⟩) 32 32), RelP 2 [dr, ansOf id ou ds], RelO W7.heap.size 64 (dr ++ ansOf id ou ds), RelF W7.heap.size id (dr ++ ansOf id ou ds), RelS W7.heap.size id (dr ++ ansOf id ou ds), RelW W7.heap.size 42 #[.slice none 0 0, .bool false, .bool false], Any]
        [[], [(0, some 54)], [], [], [(2, some 56), (3, some 57)], [(4, some 58)], [(1, some 55), (5, some 59)], [(6, some 60)], [], [(8, some 8), (7, some 61)]]
        [[], [0], [], [], [2, 3], [0, 1, 2, 3, 4], [0, 1, 2, 3, 4, 5], [0, 1, 2, 3, 4, 5, 6], [], [0, 1, 2, 3, 4, 5, 6, 7, 8]]
        [(0, some 54), (1, some 55), (2, some 56), (3, some 57), (4, some 58), (5, some 59), (6, some 60), (7, some 61), (8, some 8), (9, none)] (by kernel_rfl) (by kernel_rfl) (by kernel_rfl) (fun W W' h1 h2 => h1.trans (h2.mono h1.size)) ((Below.refl _ _).drew) ?_ ?_ ?_
      · exact (AllMono.cons Det.later (AllMono.cons Det.later (AllMono.cons Det.later (AllMono.cons Det.later (AllMono.cons RelP.later (AllMono.cons RelO.later (AllMono.cons RelF.later (AllMono.cons RelS.later (AllMono.cons RelW.later (AllMono.cons Any.later AllMono.nil))))))))))
      · refine AllOb.cons ?_ (AllOb.cons ?_ (AllOb.cons ?_ (AllOb.cons ?_ (AllOb.cons ?_ (AllOb.cons ?_ (AllOb.cons ?_ (AllOb.cons ?_ (AllOb.cons ?_ (AllOb.nil)))))))))
        · intro uF W hC' hU aF hF
          have hC : Below W7.heap.size W7 W := hC'
          clear hC'
          simp only [puts] at hF
          subst hF
          go_wp2_with (fail)
          exact ⟨rfl, rfl, (Below.refl _ _), rfl⟩
        · intro uF W hC' hU aF hF
          have hC : Below W7.heap.size W7 W := hC'
          clear hC'
          have h54 : (Det (.pointer (some ⟨gs, 0, none⟩))) (uF 0) W := hU.1
          clear hU
          simp only [puts, Act.put, List.setIfInBounds_toArray, List.set_cons_zero, List.set_cons_succ] at hF
          generalize uF 0 = x54 at h54 hF
          obtain rfl : x54 = (.pointer (some ⟨gs, 0, none⟩)) := h54
          subst hF
          go_wp2_with ((go_at_call 45; refine (id_c (gr := gr + 1) (HS7.out.below hC)).mono ?_; rintro e W1 ⟨rfl, rfl⟩; rw [← HID.out]))
          exact ⟨rfl, rfl, (Below.refl _ _), rfl⟩
        · intro uF W hC' hU aF hF
          have hC : Below W7.heap.size W7 W := hC'
          clear hC'
          simp only [puts] at hF
          subst hF
          go_wp2_with (fail)
          exact ⟨rfl, rfl, (Below.refl _ _), rfl⟩
        · intro uF W hC' hU aF hF
          have hC : Below W7.heap.size W7 W := hC'
          clear hC'
          simp only [puts] at hF
          subst hF
          go_wp2_with (fail)
          exact ⟨rfl, rfl, (Below.refl _ _), rfl⟩
        · intro uF W hC' hU aF hF
          have hC : Below W7.heap.size W7 W := hC'
          clear hC'
          have h56 : (Det (.slice (some ⟨g5, 0, none⟩) 32 32)) (uF 2) W := hU.1
          have h57 : (Det (.slice (some ⟨g7, 0, none⟩) 32 32)) (uF 3) W := hU.2.1
          clear hU
          simp only [puts, Act.put, List.setIfInBounds_toArray, List.set_cons_zero, List.set_cons_succ] at hF
          generalize uF 2 = x56 at h56 hF
          generalize uF 3 = x57 at h57 hF
          obtain rfl : x56 = (.slice (some ⟨g5, 0, none⟩) 32 32) := h56
          obtain rfl : x57 = (.slice (some ⟨g7, 0, none⟩) 32 32) := h57
          subst hF
          go_wp2_with (fail)
          exact ⟨rfl, rfl, (below_alloc _ _), RelP.two (sum_sl (HB57.out.below hC HB57.out.lt) HDR.out) (sum_sl (HB77.out.below hC HB77.out.lt) HAN.out)⟩
        · intro uF W hC' hU aF hF
          have hC : Below W7.heap.size W7 W := hC'
          clear hC'
          have h58 : (RelP 2 [dr, ansOf id ou ds]) (uF 4) W := hU.1
          clear hU
          simp only [puts, Act.put, List.setIfInBounds_toArray, List.set_cons_zero, List.set_cons_succ] at hF
          generalize uF 4 = x58 at h58 hF
          subst hF
          go_wp2_with ((go_at_call 47; refine (concat_p h58 (dr ++ ansOf id ou ds) (by simp) 64 (by simp [HDR.out, HAN.out]) (by omega)).mono ?_; rintro e W1 ⟨A1, c1, rfl, h1, hb⟩))
          exact ⟨rfl, rfl, hb, ⟨_, _, rfl, Row.base_le h1 hC.size⟩⟩
        · intro uF W hC' hU aF hF
          have hC : Below W7.heap.size W7 W := hC'
          clear hC'
          have h55 : (Det (.int .i64 id)) (uF 1) W := hU.1
          have h59 : (RelO W7.heap.size 64 (dr ++ ansOf id ou ds)) (uF 5) W := hU.2.1
          clear hU
          simp only [puts, Act.put, List.setIfInBounds_toArray, List.set_cons_zero, List.set_cons_succ] at hF
          generalize uF 1 = x55 at h55 hF
          generalize uF 5 = x59 at h59 hF
          obtain rfl : x55 = (.int .i64 id) := h55
          obtain ⟨A59, c59, rfl, s59⟩ := h59
          subst hF
          go_wp2_with (fail)
          exact ⟨rfl, rfl, (Below.refl _ _), ⟨_, _, rfl, s59⟩⟩
        · intro uF W hC' hU aF hF
          have hC : Below W7.heap.size W7 W := hC'
          clear hC'
          have h60 : (RelF W7.heap.size id (dr ++ ansOf id ou ds)) (uF 6) W := hU.1
          clear hU
          simp only [puts, Act.put, List.setIfInBounds_toArray, List.set_cons_zero, List.set_cons_succ] at hF
          generalize uF 6 = x60 at h60 hF
          obtain ⟨A60, c60, rfl, o60⟩ := h60
          subst hF
          go_wp2_with ((go_at_call 46; refine (says_c 2 id 0 A60 64 c60 W).mono ?_; rintro e W1 ⟨g, rfl, hg, q4, hb⟩))
          exact ⟨rfl, rfl, hb, ⟨_, _, _, rfl, Nat.le_trans hC.size hg, q4, OwB.below o60 hb⟩⟩
        · intro uF W hC' hU aF hF
          have hC : Below W7.heap.size W7 W := hC'
          clear hC'
          simp only [puts] at hF
          subst hF
          go_wp2_with (((with_reducible show wpList _ _ _ (Oper.mk (some 8) (Op.alloc _) _ _ _ _ :: _) _ _); refine wpList_alloc_agg (by rfl) 42 rfl #[.slice none 0 0, .bool false, .bool false] zeroSt ?_))
          exact ⟨rfl, rfl, (below_alloc _ _), ⟨_, rfl, hC.size, Blk.new _ _ _⟩⟩
      intro uF W8 hC' hU aF hF
      have hCW8 : Below W7.heap.size W7 W8 := hC'
      clear hC'
      have h61 : (RelS W7.heap.size id (dr ++ ansOf id ou ds)) (uF 7) W8 := hU.2.2.2.2.2.2.2.1
      have h8 : (RelW W7.heap.size 42 #[.slice none 0 0, .bool false, .bool false]) (uF 8) W8 := hU.2.2.2.2.2.2.2.2.1
      clear hU
      simp only [List.take_succ_cons, List.take_zero, puts, Act.put, List.setIfInBounds_toArray, List.set_cons_zero, List.set_cons_succ] at hF
      generalize uF 0 = x54 at hF
      generalize uF 1 = x55 at hF
      generalize uF 2 = x56 at hF
      generalize uF 3 = x57 at hF
      generalize uF 4 = x58 at hF
      generalize uF 5 = x59 at hF
      generalize uF 6 = x60 at hF
      generalize uF 7 = x61 at h61 hF
      generalize uF 8 = x8 at h8 hF
      obtain ⟨g61, A61, c61, rfl, z61, b61, o61⟩ := h61
      obtain ⟨g8, rfl, z8, b8⟩ := h8
      subst hF
      simp only [List.drop_succ_cons, List.drop_zero]
      refine wpListIn_of free_wide (fun ⟨_, _, h⟩ => h) rfl ?_
      refine wpList_store_whole rfl 42 (.tmp 8) (.tmp 61) rfl g8 rfl [.slice (some ⟨g61, 0, none⟩) 1 1, .bool false, .bool false] rfl aggSt rfl _ _ b8 rfl (by simp [Value.oneCell']) ?_
      intro W9 b89 g89 s89
      have ne : g61 ≠ g8 := fun e => by
        have := b61
        rw [e, Blk, b8] at this
        simp at this
      exact wpList_nil ⟨g8, g61, A61, c61, ⟨_, _, _, _, _, _, _, _, rfl⟩, z8, z61, b89, b61.grown g89 (by simpa using ne), row_gone2 o61 b8 g89, hCW8.grown g89 hCW8.size (fun k hk => by cases hk; exact z8)⟩
    rintro e a' W8 hh
    cases e with
    | normal =>
      obtain ⟨g8, g, A', c', ⟨z54', z55', z56', z57', z58', z59', z60', z61', rfl⟩, z8, zg, b88, bg8, o8, hb8⟩ := hh
      have hz8 := hb8.size
      have d81 : W8.cell? ⟨g8, 1, none⟩ = some (.bool false) := by rw [b88.cell]; rfl
      have f81 := b88.frozen 1
      have e81 : (#[.slice (some ⟨g, 0, none⟩) 1 1, .bool false, .bool false] : Array Value).setIfInBounds 1 (.bool true) = #[.slice (some ⟨g, 0, none⟩) 1 1, .bool true, .bool false] := rfl
      obtain ⟨V9, hV9⟩ : ∃ V9, V9 = W8.setCell ⟨g8, 1, none⟩ (.bool true) := ⟨_, rfl⟩
      have b89 : Blk V9 g8 42 #[.slice (some ⟨g, 0, none⟩) 1 1, .bool true, .bool false] := by rw [hV9, ← e81]; exact b88.set_ 1 _
      have hg9 : W8.grownBy V9 (some g8) := by rw [hV9]; exact grownBy_setCell _ g8 1 _
      have ne : g ≠ g8 := fun e => by
        have := bg8
        rw [e, Blk, b88] at this
        simp at this
      have bg9 := bg8.grown hg9 (by simpa using ne)
      have o9 := row_gone2 o8 b88 hg9
      have hb9 : Below W7.heap.size W7 V9 := hb8.grown hg9 hz8 (fun k hk => by cases hk; exact z8)
      have HS9 := Lib.hid (HS7.out.below hb9)
      have HB69 := Lib.hid (HB67.out.below hb9 HB67.out.lt)
      have HF9 := Lib.hid ((HF5.out.trans (Fr.below hb7)).trans (Fr.below hb9))
      have hw9 := (hw5.trans (hb7.mono (by have := hw5.size; omega))).trans (hb9.mono (by have := hw5.size; omega))
      have HV9 := Lib.hid hV9
      have HB89 := Lib.hid b89
      have hz9 := hb9.size
      have hzw5 := HF5.out.1
      have HO9 := Lib.hid o9
      have HE9 := Lib.hid ne
      have HG9 := Lib.hid bg9
      have HNG := Lib.hid (show g8 ≠ g6 ∧ g ≠ g6 by omega)
      have HW9 := Lib.hid hw9
      clear hV9 b89 hg9 e81 o8 o9 ne bg9 b88 hw9
      go_wp2_with (first
        | ((with_reducible show wpList _ _ _ (Oper.mk (some 63) (Op.load 42 _) _ _ _ _ :: _) _ _); rw [← HV9.out]; refine wpList_load_whole rfl 42 (.tmp 8) rfl g8 rfl #[.slice (some ⟨g, 0, none⟩) 1 1, .bool true, .bool false] aggSt rfl _ HB89.out ?_)
        | ((with_reducible show wpList _ _ _ (Oper.mk none (Op.store 42 (.tmp 6) (.tmp 63)) _ _ _ _ :: _) _ _); refine wpList_store_whole rfl 42 (.tmp 6) (.tmp 63) rfl g6 rfl [.slice (some ⟨g, 0, none⟩) 1 1, .bool true, .bool false] rfl aggSt rfl _ _ HB69.out rfl (by simp [Value.oneCell']) ?_; intro wx bx gx sx))
      refine bodyPost_ret (results_cell_one rfl _ g6 _ #[.slice (some ⟨g, 0, none⟩) 1 1, .bool true, .bool false] aggSt rfl rfl bx) rfl ⟨⟨g, A', c', rfl, by omega, HG9.out.grown gx (by simpa using HNG.out.2), Row.base_le (row_gone2 HO9.out HB69.out gx) (by omega)⟩, HS9.out.step HB69.out gx, ?_, HF9.out.grown gx (.inr (by omega))⟩
      exact HW9.out.grown gx (by omega) (fun k hk => by cases hk; omega)
    | _ => exact hh.elim
  | _ => exact hh.elim
end Go.Proofs.Ytiadfbcdopfibaa

