/-
  login: a session takes a command, takes an answer (printed by wip/gen_login2.py).
-/
import Derived.Test.YtiadfbcdopfibaaLoginA
namespace Go.Proofs.Ytiadfbcdopfibaa
open Go.RowKit
set_option linter.unusedVariables false
set_option linter.unusedSimpArgs false
set_option maxRecDepth 100000

theorem arr_off_run {P : Program} {T e : TypeId} {N : Nat} (hT : P.underlying T = some (.array N e)) (hs : ∀ W, (sizeOf e).run P W = .ok 1 W) (hN : 0 < N) (g off : Nat) (W : World) :
    (Instr.sliceAt T (.pointer (some ⟨g, off, none⟩)) none none none).run P W = .ok (.slice (some ⟨g, off, none⟩) N N) W := by
  have ea : P.arrayLen T = N := by simp [Program.arrayLen, hT]
  have ee : P.elem T = e := by simp [Program.elem, hT]
  have h := run_sliceAt_array_all (P := P) W T ⟨g, off, none⟩ (by rw [ea, ee]; exact hT)
  rw [h, ee, hs, ea]
  simp [Result.andThen, slicedAt, Addr.add]
/-- The challenge, read as a slice. -/
theorem ch_sl {w : World} {gs : Nat} {tn init st gr nx : Int} {At Ao : Option Addr} {nt ct no co : Nat} {ch : List UInt8} (h : Blk w gs 74 (sess tn init At nt ct Ao no co st gr ch nx).toArray) (hl : ch.length = 32) : SlB w w.heap.size (some ⟨gs, 6, none⟩) 32 32 ch :=
  ⟨by simpa using hl, Nat.le_refl _, by decide, fun _ => ⟨gs, 6, rfl, h.lt, fun j u hu => by
    rw [h.cell]
    have hj : j < ch.length := by have := (List.getElem?_eq_some_iff.1 hu).1; simpa using this
    rw [List.getElem?_toArray, sess, List.getElem?_append_right (by simp), List.getElem?_append_left (by simp; omega)]
    simpa using hu⟩⟩
theorem not_wrote' {w : World} {base n c g : Nat} {A : Option Addr} {bs : List UInt8} (h : OwB w base A n c bs) (hg : w.heap.size ≤ g ∨ g < base) : wrote A c = none ∨ wrote A c ≠ some g := by
  rcases Row.wrote_lt h with h1 | ⟨g', _, h1, hb, hl, _⟩
  · exact .inl h1
  · right; rw [h1]; exact fun e => by cases e; omega
theorem Se.step {w w' : World} {base gs g : Nat} {init : Int} {th ou ch : List UInt8} {st gr nx : Int} {cs : Array Value} (h : Se w base gs init th ou st gr ch nx) (hb : Blk w g 42 cs) (hg : w.grownBy w' (some g)) : Se w' base gs init th ou st gr ch nx := by
  obtain ⟨tn, At, nt, ct, Ao, no, co, h1, h2, h3⟩ := h.cells
  have ne : gs ≠ g := fun e => by
    rw [Blk] at hb h1
    rw [← e, h1] at hb
    simp at hb
  have far : ∀ {A : Option Addr} {n c : Nat} {bs : List UInt8}, OwB w base A n c bs → OwB w' base A n c bs := fun {A n c bs} hr => by
    refine Row.keepRow hr hg ?_
    by_cases hc : c = 0
    · left; rw [wrote, if_pos hc]
    · right
      intro e
      obtain ⟨g', cur, rfl, _, hk, _⟩ := OwB.open_ hr (by omega)
      rw [wrote, if_neg hc] at e
      simp only [Option.map_some, Option.some.injEq] at e
      subst e
      rw [Blk] at hb hk
      rw [hk] at hb
      simp at hb
  exact ⟨⟨tn, At, nt, ct, Ao, no, co, h1.grown hg (by simpa using ne), far h2, far h3⟩, h.lch, h.hb⟩

set_option maxHeartbeats 4000000 in
theorem command_out {w : World} {base gs : Nat} {init : Int} {th ou ch : List UInt8} {st gr nx : Int} (h : Se w base gs init th ou st gr ch nx) (hst : st ≠ 2) (k n x : Int) (A : Option Addr) (m c : Nat) :
    Calls Try.prog 33 #[.pointer (some ⟨gs, 0, none⟩), .agg #[.int .i64 k, .int .i64 n, .int .i64 x, .slice A m c]] w fun e w' => (∃ g, e = .returned (.agg #[.slice (some ⟨g, 0, none⟩) 1 1, .bool false, .bool false]) ∧ w.heap.size ≤ g ∧ Blk w' g 36 #[.int .i64 7, .int .i64 0, .int .i64 12, .slice none 0 0]) ∧ Se w' base gs init th ou st gr ch nx ∧ Below w.heap.size w w' := by
  obtain ⟨v, hv⟩ : ∃ v, v = (w.alloc (.cells #[.int .i64 k, .int .i64 n, .int .i64 x, .slice A m c] 36)).alloc (.cells #[.slice none 0 0, .bool false, .bool false] 42) := ⟨_, rfl⟩
  have b1 : Blk v w.heap.size 36 #[.int .i64 k, .int .i64 n, .int .i64 x, .slice A m c] := by rw [hv]; exact (Blk.new _ _ _).alloc _
  have b2 : Blk v (w.heap.size + 1) 42 #[.slice none 0 0, .bool false, .bool false] := by
    have := Blk.new (w.alloc (.cells #[.int .i64 k, .int .i64 n, .int .i64 x, .slice A m c] 36)) 42 #[.slice none 0 0, .bool false, .bool false]
    rw [World.size_alloc] at this
    rw [hv]; exact this
  have hbv : Below w.heap.size w v := by rw [hv]; exact ((Below.refl _ _).alloc (Nat.le_refl _) _).alloc (by simp) _
  have hz := hbv.size
  have hzv : w.heap.size + 1 < v.heap.size := b2.lt
  have hgs := h.lt
  have H := Lib.hid (h.below hbv)
  have HV := Lib.hid hv
  have HB1 := Lib.hid b1
  have HB2 := Lib.hid b2
  clear hv b1 b2
  have d4 := H.out.c4
  have hne : (st != 2) = true := by simpa using hst
  go_enter Try.func33, Try.ntmps33
  go_wp2_with (first
    | ((with_reducible show wpList _ _ _ (Oper.mk (some 4) (Op.alloc _) _ _ _ _ :: _) _ _); refine wpList_alloc_agg rfl 42 rfl #[.slice none 0 0, .bool false, .bool false] zeroSt ?_; rw [← HV.out])
    | (go_at_call 34; refine (rejects_c 12 v).mono ?_; rintro e w3 ⟨g, rfl, hg, q3, hb3⟩; have b23 := HB2.out.below hb3 HB2.out.lt; have hw3 := hbv.trans (hb3.mono hz); have hz3 := hb3.size)
    | ((with_reducible show wpList _ _ _ (Oper.mk none (Op.store 42 (.tmp 4) (.tmp 11)) _ _ _ _ :: _) _ _); refine wpList_store_whole rfl 42 (.tmp 4) (.tmp 11) rfl (w.heap.size + 1) rfl [.slice (some ⟨g, 0, none⟩) 1 1, .bool false, .bool false] rfl aggSt rfl _ _ b23 rfl (by simp [Value.oneCell']) ?_; intro w8 b8 g8 s8))
  refine bodyPost_ret (results_cell_one rfl _ (w.heap.size + 1) _ #[.slice (some ⟨g, 0, none⟩) 1 1, .bool false, .bool false] aggSt rfl rfl b8) rfl ⟨⟨g, rfl, by omega, q3.grown g8 (by simp; omega)⟩, ?_, ?_⟩
  · exact (H.out.below hb3).step b23 g8
  · exact hw3.grown g8 (by omega) (fun k hk => by cases hk; omega)

set_option maxHeartbeats 4000000 in
theorem command_order {w : World} {base gs : Nat} {init : Int} {th ou ch : List UInt8} {st gr nx : Int} (h : Se w base gs init th ou 2 gr ch nx) (k n x : Int) (hn : n ≠ nx) (A : Option Addr) (m c : Nat) :
    Calls Try.prog 33 #[.pointer (some ⟨gs, 0, none⟩), .agg #[.int .i64 k, .int .i64 n, .int .i64 x, .slice A m c]] w fun e w' => (∃ g, e = .returned (.agg #[.slice (some ⟨g, 0, none⟩) 1 1, .bool false, .bool false]) ∧ w.heap.size ≤ g ∧ Blk w' g 36 #[.int .i64 7, .int .i64 0, .int .i64 13, .slice none 0 0]) ∧ Se w' base gs init th ou 2 gr ch nx ∧ Below w.heap.size w w' := by
  obtain ⟨v, hv⟩ : ∃ v, v = (w.alloc (.cells #[.int .i64 k, .int .i64 n, .int .i64 x, .slice A m c] 36)).alloc (.cells #[.slice none 0 0, .bool false, .bool false] 42) := ⟨_, rfl⟩
  have b1 : Blk v w.heap.size 36 #[.int .i64 k, .int .i64 n, .int .i64 x, .slice A m c] := by rw [hv]; exact (Blk.new _ _ _).alloc _
  have b2 : Blk v (w.heap.size + 1) 42 #[.slice none 0 0, .bool false, .bool false] := by
    have := Blk.new (w.alloc (.cells #[.int .i64 k, .int .i64 n, .int .i64 x, .slice A m c] 36)) 42 #[.slice none 0 0, .bool false, .bool false]
    rw [World.size_alloc] at this
    rw [hv]; exact this
  have hbv : Below w.heap.size w v := by rw [hv]; exact ((Below.refl _ _).alloc (Nat.le_refl _) _).alloc (by simp) _
  have hz := hbv.size
  have hzv : w.heap.size + 1 < v.heap.size := b2.lt
  have hgs := h.lt
  have H := Lib.hid (h.below hbv)
  have HV := Lib.hid hv
  have HB1 := Lib.hid b1
  have HB2 := Lib.hid b2
  clear hv b1 b2
  have d4 := H.out.c4
  have hne : (n != nx) = true := by simpa using hn
  go_enter Try.func33, Try.ntmps33
  go_wp2_with ((with_reducible show wpList _ _ _ (Oper.mk (some 4) (Op.alloc _) _ _ _ _ :: _) _ _); refine wpList_alloc_agg rfl 42 rfl #[.slice none 0 0, .bool false, .bool false] zeroSt ?_; rw [← HV.out])
  refine wp_region_rel (fun W W' => Below W.heap.size W W') (fun W => Below v.heap.size v W)
    [Det (.pointer (some ⟨w.heap.size, 1, none⟩)), Det (.int .i64 n), Det (.pointer (some ⟨gs, 0, none⟩)), Det (.pointer (some ⟨gs, 0, none⟩)), Det (.pointer (some ⟨gs, 38, none⟩)), Det (.int .i64 nx), Det (.bool true), Det (.bool true)]
    [[], [(0, some 13)], [], [(2, some 15)], [(3, some 16)], [(4, some 17)], [(1, some 14), (5, some 18)], [(6, some 19)]]
    [[], [0], [], [2], [2, 3], [2, 3, 4], [0, 1, 2, 3, 4, 5], [0, 1, 2, 3, 4, 5, 6]]
    [(0, some 13), (1, some 14), (2, some 15), (3, some 16), (4, some 17), (5, some 18), (6, some 19), (7, some 12)] (by kernel_rfl) (by kernel_rfl) (fun W W' h1 h2 => h1.trans (h2.mono h1.size)) ((Below.refl _ _).drew) ?_ ?_ ?_
  · exact (AllMono.cons Det.later (AllMono.cons Det.later (AllMono.cons Det.later (AllMono.cons Det.later (AllMono.cons Det.later (AllMono.cons Det.later (AllMono.cons Det.later (AllMono.cons Det.later AllMono.nil))))))))
  · refine AllOb.cons ?_ (AllOb.cons ?_ (AllOb.cons ?_ (AllOb.cons ?_ (AllOb.cons ?_ (AllOb.cons ?_ (AllOb.cons ?_ (AllOb.cons ?_ (AllOb.nil))))))))
    · intro uF W hC' hU aF hF
      have hC : Below v.heap.size v W := hC'
      clear hC'
      simp only [puts] at hF
      subst hF
      go_wp2_with (fail)
      exact ⟨rfl, rfl, (Below.refl _ _), rfl⟩
    · intro uF W hC' hU aF hF
      have hC : Below v.heap.size v W := hC'
      clear hC'
      have h13 : (Det (.pointer (some ⟨w.heap.size, 1, none⟩))) (uF 0) W := hU.1
      clear hU
      simp only [puts, Act.put, List.setIfInBounds_toArray, List.set_cons_zero, List.set_cons_succ] at hF
      generalize uF 0 = x13 at h13 hF
      obtain rfl : x13 = (.pointer (some ⟨w.heap.size, 1, none⟩)) := h13
      subst hF
      have d1 : W.cell? ⟨w.heap.size, 1, none⟩ = some (.int .i64 n) := by rw [(HB1.out.below hC HB1.out.lt).cell]; rfl
      go_wp2_with (fail)
      exact ⟨rfl, rfl, (Below.refl _ _), rfl⟩
    · intro uF W hC' hU aF hF
      have hC : Below v.heap.size v W := hC'
      clear hC'
      simp only [puts] at hF
      subst hF
      go_wp2_with (fail)
      exact ⟨rfl, rfl, (Below.refl _ _), rfl⟩
    · intro uF W hC' hU aF hF
      have hC : Below v.heap.size v W := hC'
      clear hC'
      have h15 : (Det (.pointer (some ⟨gs, 0, none⟩))) (uF 2) W := hU.1
      clear hU
      simp only [puts, Act.put, List.setIfInBounds_toArray, List.set_cons_zero, List.set_cons_succ] at hF
      generalize uF 2 = x15 at h15 hF
      obtain rfl : x15 = (.pointer (some ⟨gs, 0, none⟩)) := h15
      subst hF
      go_wp2_with (fail)
      exact ⟨rfl, rfl, (Below.refl _ _), rfl⟩
    · intro uF W hC' hU aF hF
      have hC : Below v.heap.size v W := hC'
      clear hC'
      have h16 : (Det (.pointer (some ⟨gs, 0, none⟩))) (uF 3) W := hU.1
      clear hU
      simp only [puts, Act.put, List.setIfInBounds_toArray, List.set_cons_zero, List.set_cons_succ] at hF
      generalize uF 3 = x16 at h16 hF
      obtain rfl : x16 = (.pointer (some ⟨gs, 0, none⟩)) := h16
      subst hF
      go_wp2_with (fail)
      exact ⟨rfl, rfl, (Below.refl _ _), rfl⟩
    · intro uF W hC' hU aF hF
      have hC : Below v.heap.size v W := hC'
      clear hC'
      have h17 : (Det (.pointer (some ⟨gs, 38, none⟩))) (uF 4) W := hU.1
      clear hU
      simp only [puts, Act.put, List.setIfInBounds_toArray, List.set_cons_zero, List.set_cons_succ] at hF
      generalize uF 4 = x17 at h17 hF
      obtain rfl : x17 = (.pointer (some ⟨gs, 38, none⟩)) := h17
      subst hF
      have d2 := (H.out.below hC).c38
      go_wp2_with (fail)
      exact ⟨rfl, rfl, (Below.refl _ _), rfl⟩
    · intro uF W hC' hU aF hF
      have hC : Below v.heap.size v W := hC'
      clear hC'
      have h14 : (Det (.int .i64 n)) (uF 1) W := hU.1
      have h18 : (Det (.int .i64 nx)) (uF 5) W := hU.2.1
      clear hU
      simp only [puts, Act.put, List.setIfInBounds_toArray, List.set_cons_zero, List.set_cons_succ] at hF
      generalize uF 1 = x14 at h14 hF
      generalize uF 5 = x18 at h18 hF
      obtain rfl : x14 = (.int .i64 n) := h14
      obtain rfl : x18 = (.int .i64 nx) := h18
      subst hF
      go_wp2_with (fail)
      exact ⟨rfl, rfl, (Below.refl _ _), rfl⟩
    · intro uF W hC' hU aF hF
      have hC : Below v.heap.size v W := hC'
      clear hC'
      have h19 : (Det (.bool true)) (uF 6) W := hU.1
      clear hU
      simp only [puts, Act.put, List.setIfInBounds_toArray, List.set_cons_zero, List.set_cons_succ] at hF
      generalize uF 6 = x19 at h19 hF
      obtain rfl : x19 = (.bool true) := h19
      subst hF
      go_wp2_with (fail)
      exact ⟨rfl, rfl, (Below.refl _ _), rfl⟩
  intro uF W5 hC' hU aF hF
  have hCW5 : Below v.heap.size v W5 := hC'
  clear hC'
  have h12 : (Det (.bool true)) (uF 7) W5 := hU.2.2.2.2.2.2.2.1
  clear hU
  simp only [puts, Act.put, List.setIfInBounds_toArray, List.set_cons_zero, List.set_cons_succ] at hF
  generalize uF 0 = x13 at hF
  generalize uF 1 = x14 at hF
  generalize uF 2 = x15 at hF
  generalize uF 3 = x16 at hF
  generalize uF 4 = x17 at hF
  generalize uF 5 = x18 at hF
  generalize uF 6 = x19 at hF
  generalize uF 7 = x12 at h12 hF
  obtain rfl : x12 = (.bool true) := h12
  subst hF
  have hzW := hCW5.size
  go_wp2_with (first
    | (go_at_call 34; refine (rejects_c 13 W5).mono ?_; rintro e w3 ⟨g, rfl, hg, q3, hb3⟩; have b23 := (HB2.out.below hCW5 HB2.out.lt).below hb3 (Nat.lt_of_lt_of_le HB2.out.lt hCW5.size); have hw3 := hbv.trans ((hCW5.trans (hb3.mono hCW5.size)).mono hz); have hz3 := hb3.size)
    | ((with_reducible show wpList _ _ _ (Oper.mk none (Op.store 42 (.tmp 4) (.tmp 20)) _ _ _ _ :: _) _ _); refine wpList_store_whole rfl 42 (.tmp 4) (.tmp 20) rfl (w.heap.size + 1) rfl [.slice (some ⟨g, 0, none⟩) 1 1, .bool false, .bool false] rfl aggSt rfl _ _ b23 rfl (by simp [Value.oneCell']) ?_; intro w8 b8 g8 s8))
  refine bodyPost_ret (results_cell_one rfl _ (w.heap.size + 1) _ #[.slice (some ⟨g, 0, none⟩) 1 1, .bool false, .bool false] aggSt rfl rfl b8) rfl ⟨⟨g, rfl, by omega, q3.grown g8 (by simp; omega)⟩, ?_, ?_⟩
  · exact ((H.out.below hCW5).below hb3).step b23 g8
  · exact hw3.grown g8 (by omega) (fun k hk => by cases hk; omega)

set_option maxHeartbeats 4000000 in
theorem command_ok {w : World} {base gs : Nat} {init : Int} {th ou ch : List UInt8} {st gr nx : Int} (h : Se w base gs init th ou 2 gr ch nx) (k x : Int) (h0 : 0 ≤ nx) (h9 : nx ≤ 1000000) (A : Option Addr) (m c : Nat) (hbw : base ≤ w.heap.size) :
    Calls Try.prog 33 #[.pointer (some ⟨gs, 0, none⟩), .agg #[.int .i64 k, .int .i64 nx, .int .i64 x, .slice A m c]] w fun e w' => e = .returned (.agg #[.slice none 0 0, .bool false, .bool true]) ∧ Se w' base gs init th ou 2 gr ch (nx + 1) ∧ Below base w w' ∧ Fr [gs] w w' := by
  obtain ⟨n, hn⟩ : ∃ n, n = nx := ⟨_, rfl⟩
  rw [← hn]
  have HN := Lib.hid hn
  clear hn
  obtain ⟨v, hv⟩ : ∃ v, v = (w.alloc (.cells #[.int .i64 k, .int .i64 n, .int .i64 x, .slice A m c] 36)).alloc (.cells #[.slice none 0 0, .bool false, .bool false] 42) := ⟨_, rfl⟩
  have b1 : Blk v w.heap.size 36 #[.int .i64 k, .int .i64 n, .int .i64 x, .slice A m c] := by rw [hv]; exact (Blk.new _ _ _).alloc _
  have b2 : Blk v (w.heap.size + 1) 42 #[.slice none 0 0, .bool false, .bool false] := by
    have := Blk.new (w.alloc (.cells #[.int .i64 k, .int .i64 n, .int .i64 x, .slice A m c] 36)) 42 #[.slice none 0 0, .bool false, .bool false]
    rw [World.size_alloc] at this
    rw [hv]; exact this
  have hbv : Below w.heap.size w v := by rw [hv]; exact ((Below.refl _ _).alloc (Nat.le_refl _) _).alloc (by simp) _
  have hz := hbv.size
  have hzv : w.heap.size + 1 < v.heap.size := b2.lt
  have hgs := h.lt
  have H := Lib.hid (h.below hbv)
  have HV := Lib.hid hv
  have HB1 := Lib.hid b1
  have HB2 := Lib.hid b2
  clear hv b1 b2
  have d4 := H.out.c4
  have hne : (n != nx) = false := by simp [HN.out]
  have hB := buildStT
  go_enter Try.func33, Try.ntmps33
  go_wp2_with ((with_reducible show wpList _ _ _ (Oper.mk (some 4) (Op.alloc _) _ _ _ _ :: _) _ _); refine wpList_alloc_agg rfl 42 rfl #[.slice none 0 0, .bool false, .bool false] zeroSt ?_; rw [← HV.out])
  refine wp_region_rel (fun W W' => Below W.heap.size W W') (fun W => Below v.heap.size v W)
    [Det (.pointer (some ⟨w.heap.size, 1, none⟩)), Det (.int .i64 n), Det (.pointer (some ⟨gs, 0, none⟩)), Det (.pointer (some ⟨gs, 0, none⟩)), Det (.pointer (some ⟨gs, 38, none⟩)), Det (.int .i64 nx), Det (.bool false), Det (.bool false)]
    [[], [(0, some 13)], [], [(2, some 15)], [(3, some 16)], [(4, some 17)], [(1, some 14), (5, some 18)], [(6, some 19)]]
    [[], [0], [], [2], [2, 3], [2, 3, 4], [0, 1, 2, 3, 4, 5], [0, 1, 2, 3, 4, 5, 6]]
    [(0, some 13), (1, some 14), (2, some 15), (3, some 16), (4, some 17), (5, some 18), (6, some 19), (7, some 12)] (by kernel_rfl) (by kernel_rfl) (fun W W' h1 h2 => h1.trans (h2.mono h1.size)) ((Below.refl _ _).drew) ?_ ?_ ?_
  · exact (AllMono.cons Det.later (AllMono.cons Det.later (AllMono.cons Det.later (AllMono.cons Det.later (AllMono.cons Det.later (AllMono.cons Det.later (AllMono.cons Det.later (AllMono.cons Det.later AllMono.nil))))))))
  · refine AllOb.cons ?_ (AllOb.cons ?_ (AllOb.cons ?_ (AllOb.cons ?_ (AllOb.cons ?_ (AllOb.cons ?_ (AllOb.cons ?_ (AllOb.cons ?_ (AllOb.nil))))))))
    · intro uF W hC' hU aF hF
      have hC : Below v.heap.size v W := hC'
      clear hC'
      simp only [puts] at hF
      subst hF
      go_wp2_with (fail)
      exact ⟨rfl, rfl, (Below.refl _ _), rfl⟩
    · intro uF W hC' hU aF hF
      have hC : Below v.heap.size v W := hC'
      clear hC'
      have h13 : (Det (.pointer (some ⟨w.heap.size, 1, none⟩))) (uF 0) W := hU.1
      clear hU
      simp only [puts, Act.put, List.setIfInBounds_toArray, List.set_cons_zero, List.set_cons_succ] at hF
      generalize uF 0 = x13 at h13 hF
      obtain rfl : x13 = (.pointer (some ⟨w.heap.size, 1, none⟩)) := h13
      subst hF
      have d1 : W.cell? ⟨w.heap.size, 1, none⟩ = some (.int .i64 n) := by rw [(HB1.out.below hC HB1.out.lt).cell]; rfl
      go_wp2_with (fail)
      exact ⟨rfl, rfl, (Below.refl _ _), rfl⟩
    · intro uF W hC' hU aF hF
      have hC : Below v.heap.size v W := hC'
      clear hC'
      simp only [puts] at hF
      subst hF
      go_wp2_with (fail)
      exact ⟨rfl, rfl, (Below.refl _ _), rfl⟩
    · intro uF W hC' hU aF hF
      have hC : Below v.heap.size v W := hC'
      clear hC'
      have h15 : (Det (.pointer (some ⟨gs, 0, none⟩))) (uF 2) W := hU.1
      clear hU
      simp only [puts, Act.put, List.setIfInBounds_toArray, List.set_cons_zero, List.set_cons_succ] at hF
      generalize uF 2 = x15 at h15 hF
      obtain rfl : x15 = (.pointer (some ⟨gs, 0, none⟩)) := h15
      subst hF
      go_wp2_with (fail)
      exact ⟨rfl, rfl, (Below.refl _ _), rfl⟩
    · intro uF W hC' hU aF hF
      have hC : Below v.heap.size v W := hC'
      clear hC'
      have h16 : (Det (.pointer (some ⟨gs, 0, none⟩))) (uF 3) W := hU.1
      clear hU
      simp only [puts, Act.put, List.setIfInBounds_toArray, List.set_cons_zero, List.set_cons_succ] at hF
      generalize uF 3 = x16 at h16 hF
      obtain rfl : x16 = (.pointer (some ⟨gs, 0, none⟩)) := h16
      subst hF
      go_wp2_with (fail)
      exact ⟨rfl, rfl, (Below.refl _ _), rfl⟩
    · intro uF W hC' hU aF hF
      have hC : Below v.heap.size v W := hC'
      clear hC'
      have h17 : (Det (.pointer (some ⟨gs, 38, none⟩))) (uF 4) W := hU.1
      clear hU
      simp only [puts, Act.put, List.setIfInBounds_toArray, List.set_cons_zero, List.set_cons_succ] at hF
      generalize uF 4 = x17 at h17 hF
      obtain rfl : x17 = (.pointer (some ⟨gs, 38, none⟩)) := h17
      subst hF
      have d2 := (H.out.below hC).c38
      go_wp2_with (fail)
      exact ⟨rfl, rfl, (Below.refl _ _), rfl⟩
    · intro uF W hC' hU aF hF
      have hC : Below v.heap.size v W := hC'
      clear hC'
      have h14 : (Det (.int .i64 n)) (uF 1) W := hU.1
      have h18 : (Det (.int .i64 nx)) (uF 5) W := hU.2.1
      clear hU
      simp only [puts, Act.put, List.setIfInBounds_toArray, List.set_cons_zero, List.set_cons_succ] at hF
      generalize uF 1 = x14 at h14 hF
      generalize uF 5 = x18 at h18 hF
      obtain rfl : x14 = (.int .i64 n) := h14
      obtain rfl : x18 = (.int .i64 nx) := h18
      subst hF
      go_wp2_with (fail)
      exact ⟨rfl, rfl, (Below.refl _ _), rfl⟩
    · intro uF W hC' hU aF hF
      have hC : Below v.heap.size v W := hC'
      clear hC'
      have h19 : (Det (.bool false)) (uF 6) W := hU.1
      clear hU
      simp only [puts, Act.put, List.setIfInBounds_toArray, List.set_cons_zero, List.set_cons_succ] at hF
      generalize uF 6 = x19 at h19 hF
      obtain rfl : x19 = (.bool false) := h19
      subst hF
      go_wp2_with (fail)
      exact ⟨rfl, rfl, (Below.refl _ _), rfl⟩
  intro uF W5 hC' hU aF hF
  have hCW5 : Below v.heap.size v W5 := hC'
  clear hC'
  have h12 : (Det (.bool false)) (uF 7) W5 := hU.2.2.2.2.2.2.2.1
  clear hU
  simp only [puts, Act.put, List.setIfInBounds_toArray, List.set_cons_zero, List.set_cons_succ] at hF
  generalize uF 0 = x13 at hF
  generalize uF 1 = x14 at hF
  generalize uF 2 = x15 at hF
  generalize uF 3 = x16 at hF
  generalize uF 4 = x17 at hF
  generalize uF 5 = x18 at hF
  generalize uF 6 = x19 at hF
  generalize uF 7 = x12 at h12 hF
  obtain rfl : x12 = (.bool false) := h12
  subst hF
  have hzW := hCW5.size
  have h5 := H.out.below hCW5
  have d38 := h5.c38
  have f38 := h5.fz 38
  obtain ⟨V6, hV6⟩ : ∃ V6, V6 = W5.setCell ⟨gs, 38, none⟩ (.int .i64 (nx + 1)) := ⟨_, rfl⟩
  have h6 := h5.setNx (nx + 1)
  rw [← hV6] at h6
  have b26 : Blk V6 (w.heap.size + 1) 42 #[.slice none 0 0, .bool false, .bool false] := by rw [hV6]; exact (HB2.out.below hCW5 HB2.out.lt).far (by show w.heap.size + 1 ≠ gs; omega) _
  have hw6 : Below base w V6 := by rw [hV6]; exact ((hbv.mono hbw).trans (hCW5.mono (by omega))).setCell (p := ⟨gs, 38, none⟩) h.hb _
  have HF6 := Lib.hid (show Fr [gs] w V6 by rw [hV6]; exact ((Fr.below hbv).trans (Fr.below hCW5)).grown (grownBy_setCell _ gs 38 _) (.inl (by simp)))
  have HV6 := Lib.hid hV6
  have H6 := Lib.hid h6
  have HB26 := Lib.hid b26
  clear h5 h6 hV6 b26
  go_wp2_with (first
    | ((with_reducible show wpList _ _ _ (Oper.mk none (Op.store 42 (.tmp 4) (.tmp 28)) _ _ _ _ :: _) _ _); rw [← HV6.out]; refine wpList_store_whole rfl 42 (.tmp 4) (.tmp 28) rfl (w.heap.size + 1) rfl [.slice none 0 0, .bool false, .bool true] rfl aggSt rfl _ _ HB26.out rfl (by simp [Value.oneCell']) ?_; intro w8 b8 g8 s8))
  refine bodyPost_ret (results_cell_one rfl _ (w.heap.size + 1) _ #[.slice none 0 0, .bool false, .bool true] aggSt rfl rfl b8) rfl ⟨rfl, by rw [HN.out]; exact H6.out.step HB26.out g8, ?_, HF6.out.grown g8 (.inr (by omega))⟩
  exact hw6.grown g8 (by have := hw6.size; omega) (fun k hk => by cases hk; omega)

/-! ## An answer -/
theorem buildFr4 (w : World) : (Instr.build 36 #[(0, .int .i64 4)]).run Try.prog w = .ok (.agg #[.int .i64 4, .int .i64 0, .int .i64 0, .slice none 0 0]) w := by kernel_rfl
set_option maxHeartbeats 4000000 in
theorem answer_out {w : World} {base gs : Nat} {init : Int} {th ou ch : List UInt8} {st gr nx : Int} (h : Se w base gs init th ou st gr ch nx) (hst : st ≠ 1) (k n x : Int) (A : Option Addr) (m c : Nat) :
    Calls Try.prog 32 #[.pointer (some ⟨gs, 0, none⟩), .agg #[.int .i64 k, .int .i64 n, .int .i64 x, .slice A m c]] w fun e w' => (∃ g, e = .returned (.agg #[.slice (some ⟨g, 0, none⟩) 1 1, .bool false, .bool false]) ∧ w.heap.size ≤ g ∧ Blk w' g 36 #[.int .i64 7, .int .i64 0, .int .i64 12, .slice none 0 0]) ∧ Se w' base gs init th ou st gr ch nx ∧ Below w.heap.size w w' := by
  obtain ⟨v, hv⟩ : ∃ v, v = (w.alloc (.cells #[.int .i64 k, .int .i64 n, .int .i64 x, .slice A m c] 36)).alloc (.cells #[.slice none 0 0, .bool false, .bool false] 42) := ⟨_, rfl⟩
  have b1 : Blk v w.heap.size 36 #[.int .i64 k, .int .i64 n, .int .i64 x, .slice A m c] := by rw [hv]; exact (Blk.new _ _ _).alloc _
  have b2 : Blk v (w.heap.size + 1) 42 #[.slice none 0 0, .bool false, .bool false] := by
    have := Blk.new (w.alloc (.cells #[.int .i64 k, .int .i64 n, .int .i64 x, .slice A m c] 36)) 42 #[.slice none 0 0, .bool false, .bool false]
    rw [World.size_alloc] at this
    rw [hv]; exact this
  have hbv : Below w.heap.size w v := by rw [hv]; exact ((Below.refl _ _).alloc (Nat.le_refl _) _).alloc (by simp) _
  have hz := hbv.size
  have hzv : w.heap.size + 1 < v.heap.size := b2.lt
  have hgs := h.lt
  have H := Lib.hid (h.below hbv)
  have HV := Lib.hid hv
  have HB1 := Lib.hid b1
  have HB2 := Lib.hid b2
  clear hv b1 b2
  have d4 := H.out.c4
  have hne : (st != 1) = true := by simpa using hst
  go_enter Try.func32, Try.ntmps32
  go_wp2_with (first
    | ((with_reducible show wpList _ _ _ (Oper.mk (some 4) (Op.alloc _) _ _ _ _ :: _) _ _); refine wpList_alloc_agg rfl 42 rfl #[.slice none 0 0, .bool false, .bool false] zeroSt ?_; rw [← HV.out])
    | (go_at_call 34; refine (rejects_c 12 v).mono ?_; rintro e w3 ⟨g, rfl, hg, q3, hb3⟩; have b23 := HB2.out.below hb3 HB2.out.lt; have hw3 := hbv.trans (hb3.mono hz); have hz3 := hb3.size)
    | ((with_reducible show wpList _ _ _ (Oper.mk none (Op.store 42 (.tmp 4) (.tmp 10)) _ _ _ _ :: _) _ _); refine wpList_store_whole rfl 42 (.tmp 4) (.tmp 10) rfl (w.heap.size + 1) rfl [.slice (some ⟨g, 0, none⟩) 1 1, .bool false, .bool false] rfl aggSt rfl _ _ b23 rfl (by simp [Value.oneCell']) ?_; intro w8 b8 g8 s8))
  refine bodyPost_ret (results_cell_one rfl _ (w.heap.size + 1) _ #[.slice (some ⟨g, 0, none⟩) 1 1, .bool false, .bool false] aggSt rfl rfl b8) rfl ⟨⟨g, rfl, by omega, q3.grown g8 (by simp; omega)⟩, ?_, ?_⟩
  · exact (H.out.below hb3).step b23 g8
  · exact hw3.grown g8 (by omega) (fun k hk => by cases hk; omega)

set_option maxHeartbeats 4000000 in
theorem answer_in {w : World} {base gs : Nat} {init : Int} {th ou ch ds : List UInt8} {nx : Int} {gr : Nat} (h : Se w base gs init th ou 1 (gr : Int) ch nx) (k n x : Int) {A : Option Addr} {m c B : Nat} (hd : SlB w B A m c ds) (hB : B ≤ w.heap.size) (hth : th.length ≤ 1048576) (hbw : base ≤ w.heap.size) (r : Bool) (hr : (ansOf (((gr % 256 : Nat)) : Int) th ch == ds) = r) :
    Calls Try.prog 32 #[.pointer (some ⟨gs, 0, none⟩), .agg #[.int .i64 k, .int .i64 n, .int .i64 x, .slice A m c]] w fun e w' => (if r then (∃ g, e = .returned (.agg #[.slice (some ⟨g, 0, none⟩) 1 1, .bool false, .bool false]) ∧ w.heap.size ≤ g ∧ Blk w' g 36 #[.int .i64 4, .int .i64 0, .int .i64 0, .slice none 0 0]) ∧ Se w' base gs init th ou 2 (gr : Int) ch 1
      else (∃ g, e = .returned (.agg #[.slice (some ⟨g, 0, none⟩) 1 1, .bool false, .bool false]) ∧ w.heap.size ≤ g ∧ Blk w' g 36 #[.int .i64 7, .int .i64 0, .int .i64 12, .slice none 0 0]) ∧ Se w' base gs init th ou 0 (gr : Int) ch nx) ∧ Below base w w' ∧ Fr [gs] w w' := by
  have HD := Lib.hid hd
  clear hd
  obtain ⟨v, hv⟩ : ∃ v, v = (w.alloc (.cells #[.int .i64 k, .int .i64 n, .int .i64 x, .slice A m c] 36)).alloc (.cells #[.slice none 0 0, .bool false, .bool false] 42) := ⟨_, rfl⟩
  have b1 : Blk v w.heap.size 36 #[.int .i64 k, .int .i64 n, .int .i64 x, .slice A m c] := by rw [hv]; exact (Blk.new _ _ _).alloc _
  have b2 : Blk v (w.heap.size + 1) 42 #[.slice none 0 0, .bool false, .bool false] := by
    have := Blk.new (w.alloc (.cells #[.int .i64 k, .int .i64 n, .int .i64 x, .slice A m c] 36)) 42 #[.slice none 0 0, .bool false, .bool false]
    rw [World.size_alloc] at this
    rw [hv]; exact this
  have hbv : Below w.heap.size w v := by rw [hv]; exact ((Below.refl _ _).alloc (Nat.le_refl _) _).alloc (by simp) _
  have hz := hbv.size
  have hzv : w.heap.size + 1 < v.heap.size := b2.lt
  have hgs := h.lt
  have H := Lib.hid (h.below hbv)
  have HV := Lib.hid hv
  have HB1 := Lib.hid b1
  have HB2 := Lib.hid b2
  clear hv b1 b2
  have d4 := H.out.c4
  have HR := Lib.hid hr
  clear hr
  have hall := arr_off_run (P := Try.prog) (T := 34) Try.underlying34 size1 (by omega) gs 6
  obtain ⟨tn, At, nt, ct, Ao, no, co, h1, h2, h3⟩ := H.out.cells
  have hlt2 := h2.len
  have HC1 := Lib.hid h1
  have HC2 := Lib.hid h2
  clear h1 h2 h3
  go_enter Try.func32, Try.ntmps32
  go_wp2_with ((with_reducible show wpList _ _ _ (Oper.mk (some 4) (Op.alloc _) _ _ _ _ :: _) _ _); refine wpList_alloc_agg rfl 42 rfl #[.slice none 0 0, .bool false, .bool false] zeroSt ?_; rw [← HV.out])
  refine wp_region_rel (fun W W' => Below W.heap.size W W') (fun W => Below v.heap.size v W)
    [Det (.pointer (some ⟨gs, 0, none⟩)), Det (.int .i64 (((gr % 256 : Nat)) : Int)), Det (.pointer (some ⟨gs, 0, none⟩)), Det (.pointer (some ⟨gs, 0, none⟩)), Det (.pointer (some ⟨gs, 0, none⟩)), Det (.pointer (some ⟨gs, 2, none⟩)), Det (.slice At nt ct), Det (.pointer (some ⟨gs, 0, none⟩)), Det (.pointer (some ⟨gs, 0, none⟩)), Det (.pointer (some ⟨gs, 6, none⟩)), Det (.slice (some ⟨gs, 6, none⟩) 32 32), Det (.pointer (some ⟨w.heap.size, 3, none⟩)), Det (.slice A m c), Det (.bool r), Det (.bool (!r))]
    [[], [(0, some 11)], [], [(2, some 13)], [(3, some 14)], [(4, some 15)], [(5, some 16)], [], [(7, some 18)], [(8, some 19)], [(9, some 20)], [], [(11, some 22)], [(1, some 12), (6, some 17), (10, some 21), (12, some 23)], [(13, some 24)]]
    [[], [0], [], [2], [2, 3], [2, 3, 4], [2, 3, 4, 5], [], [7], [7, 8], [7, 8, 9], [], [11], [0, 1, 2, 3, 4, 5, 6, 7, 8, 9, 10, 11, 12], [0, 1, 2, 3, 4, 5, 6, 7, 8, 9, 10, 11, 12, 13]]
    [(0, some 11), (1, some 12), (2, some 13), (3, some 14), (4, some 15), (5, some 16), (6, some 17), (7, some 18), (8, some 19), (9, some 20), (10, some 21), (11, some 22), (12, some 23), (13, some 24), (14, some 25)] (by kernel_rfl) (by kernel_rfl) (fun W W' h1 h2 => h1.trans (h2.mono h1.size)) ((Below.refl _ _).drew) ?_ ?_ ?_
  · exact (AllMono.cons Det.later (AllMono.cons Det.later (AllMono.cons Det.later (AllMono.cons Det.later (AllMono.cons Det.later (AllMono.cons Det.later (AllMono.cons Det.later (AllMono.cons Det.later (AllMono.cons Det.later (AllMono.cons Det.later (AllMono.cons Det.later (AllMono.cons Det.later (AllMono.cons Det.later (AllMono.cons Det.later (AllMono.cons Det.later AllMono.nil)))))))))))))))
  · refine AllOb.cons ?_ (AllOb.cons ?_ (AllOb.cons ?_ (AllOb.cons ?_ (AllOb.cons ?_ (AllOb.cons ?_ (AllOb.cons ?_ (AllOb.cons ?_ (AllOb.cons ?_ (AllOb.cons ?_ (AllOb.cons ?_ (AllOb.cons ?_ (AllOb.cons ?_ (AllOb.cons ?_ (AllOb.cons ?_ (AllOb.nil)))))))))))))))
    · intro uF W hC' hU aF hF
      have hC : Below v.heap.size v W := hC'
      clear hC'
      simp only [puts] at hF
      subst hF
      go_wp2_with (fail)
      exact ⟨rfl, rfl, (Below.refl _ _), rfl⟩
    · intro uF W hC' hU aF hF
      have hC : Below v.heap.size v W := hC'
      clear hC'
      have h11 : (Det (.pointer (some ⟨gs, 0, none⟩))) (uF 0) W := hU.1
      clear hU
      simp only [puts, Act.put, List.setIfInBounds_toArray, List.set_cons_zero, List.set_cons_succ] at hF
      generalize uF 0 = x11 at h11 hF
      obtain rfl : x11 = (.pointer (some ⟨gs, 0, none⟩)) := h11
      subst hF
      go_wp2_with ((go_at_call 45; refine (id_c (H.out.below hC)).mono ?_; rintro e W1 ⟨rfl, rfl⟩))
      exact ⟨rfl, rfl, (Below.refl _ _), rfl⟩
    · intro uF W hC' hU aF hF
      have hC : Below v.heap.size v W := hC'
      clear hC'
      simp only [puts] at hF
      subst hF
      go_wp2_with (fail)
      exact ⟨rfl, rfl, (Below.refl _ _), rfl⟩
    · intro uF W hC' hU aF hF
      have hC : Below v.heap.size v W := hC'
      clear hC'
      have h13 : (Det (.pointer (some ⟨gs, 0, none⟩))) (uF 2) W := hU.1
      clear hU
      simp only [puts, Act.put, List.setIfInBounds_toArray, List.set_cons_zero, List.set_cons_succ] at hF
      generalize uF 2 = x13 at h13 hF
      obtain rfl : x13 = (.pointer (some ⟨gs, 0, none⟩)) := h13
      subst hF
      go_wp2_with (fail)
      exact ⟨rfl, rfl, (Below.refl _ _), rfl⟩
    · intro uF W hC' hU aF hF
      have hC : Below v.heap.size v W := hC'
      clear hC'
      have h14 : (Det (.pointer (some ⟨gs, 0, none⟩))) (uF 3) W := hU.1
      clear hU
      simp only [puts, Act.put, List.setIfInBounds_toArray, List.set_cons_zero, List.set_cons_succ] at hF
      generalize uF 3 = x14 at h14 hF
      obtain rfl : x14 = (.pointer (some ⟨gs, 0, none⟩)) := h14
      subst hF
      go_wp2_with (fail)
      exact ⟨rfl, rfl, (Below.refl _ _), rfl⟩
    · intro uF W hC' hU aF hF
      have hC : Below v.heap.size v W := hC'
      clear hC'
      have h15 : (Det (.pointer (some ⟨gs, 0, none⟩))) (uF 4) W := hU.1
      clear hU
      simp only [puts, Act.put, List.setIfInBounds_toArray, List.set_cons_zero, List.set_cons_succ] at hF
      generalize uF 4 = x15 at h15 hF
      obtain rfl : x15 = (.pointer (some ⟨gs, 0, none⟩)) := h15
      subst hF
      go_wp2_with (fail)
      exact ⟨rfl, rfl, (Below.refl _ _), rfl⟩
    · intro uF W hC' hU aF hF
      have hC : Below v.heap.size v W := hC'
      clear hC'
      have h16 : (Det (.pointer (some ⟨gs, 2, none⟩))) (uF 5) W := hU.1
      clear hU
      simp only [puts, Act.put, List.setIfInBounds_toArray, List.set_cons_zero, List.set_cons_succ] at hF
      generalize uF 5 = x16 at h16 hF
      obtain rfl : x16 = (.pointer (some ⟨gs, 2, none⟩)) := h16
      subst hF
      have d2 : W.cell? ⟨gs, 2, none⟩ = some (.slice At nt ct) := by rw [(HC1.out.below hC HC1.out.lt).cell]; rfl
      go_wp2_with (fail)
      exact ⟨rfl, rfl, (Below.refl _ _), rfl⟩
    · intro uF W hC' hU aF hF
      have hC : Below v.heap.size v W := hC'
      clear hC'
      simp only [puts] at hF
      subst hF
      go_wp2_with (fail)
      exact ⟨rfl, rfl, (Below.refl _ _), rfl⟩
    · intro uF W hC' hU aF hF
      have hC : Below v.heap.size v W := hC'
      clear hC'
      have h18 : (Det (.pointer (some ⟨gs, 0, none⟩))) (uF 7) W := hU.1
      clear hU
      simp only [puts, Act.put, List.setIfInBounds_toArray, List.set_cons_zero, List.set_cons_succ] at hF
      generalize uF 7 = x18 at h18 hF
      obtain rfl : x18 = (.pointer (some ⟨gs, 0, none⟩)) := h18
      subst hF
      go_wp2_with (fail)
      exact ⟨rfl, rfl, (Below.refl _ _), rfl⟩
    · intro uF W hC' hU aF hF
      have hC : Below v.heap.size v W := hC'
      clear hC'
      have h19 : (Det (.pointer (some ⟨gs, 0, none⟩))) (uF 8) W := hU.1
      clear hU
      simp only [puts, Act.put, List.setIfInBounds_toArray, List.set_cons_zero, List.set_cons_succ] at hF
      generalize uF 8 = x19 at h19 hF
      obtain rfl : x19 = (.pointer (some ⟨gs, 0, none⟩)) := h19
      subst hF
      go_wp2_with (fail)
      exact ⟨rfl, rfl, (Below.refl _ _), rfl⟩
    · intro uF W hC' hU aF hF
      have hC : Below v.heap.size v W := hC'
      clear hC'
      have h20 : (Det (.pointer (some ⟨gs, 6, none⟩))) (uF 9) W := hU.1
      clear hU
      simp only [puts, Act.put, List.setIfInBounds_toArray, List.set_cons_zero, List.set_cons_succ] at hF
      generalize uF 9 = x20 at h20 hF
      obtain rfl : x20 = (.pointer (some ⟨gs, 6, none⟩)) := h20
      subst hF
      go_wp2_with (fail)
      exact ⟨rfl, rfl, (Below.refl _ _), rfl⟩
    · intro uF W hC' hU aF hF
      have hC : Below v.heap.size v W := hC'
      clear hC'
      simp only [puts] at hF
      subst hF
      go_wp2_with (fail)
      exact ⟨rfl, rfl, (Below.refl _ _), rfl⟩
    · intro uF W hC' hU aF hF
      have hC : Below v.heap.size v W := hC'
      clear hC'
      have h22 : (Det (.pointer (some ⟨w.heap.size, 3, none⟩))) (uF 11) W := hU.1
      clear hU
      simp only [puts, Act.put, List.setIfInBounds_toArray, List.set_cons_zero, List.set_cons_succ] at hF
      generalize uF 11 = x22 at h22 hF
      obtain rfl : x22 = (.pointer (some ⟨w.heap.size, 3, none⟩)) := h22
      subst hF
      have d3 : W.cell? ⟨w.heap.size, 3, none⟩ = some (.slice A m c) := by rw [(HB1.out.below hC HB1.out.lt).cell]; rfl
      go_wp2_with (fail)
      exact ⟨rfl, rfl, (Below.refl _ _), rfl⟩
    · intro uF W hC' hU aF hF
      have hC : Below v.heap.size v W := hC'
      clear hC'
      have h12 : (Det (.int .i64 (((gr % 256 : Nat)) : Int))) (uF 1) W := hU.1
      have h17 : (Det (.slice At nt ct)) (uF 6) W := hU.2.1
      have h21 : (Det (.slice (some ⟨gs, 6, none⟩) 32 32)) (uF 10) W := hU.2.2.1
      have h23 : (Det (.slice A m c)) (uF 12) W := hU.2.2.2.1
      clear hU
      simp only [puts, Act.put, List.setIfInBounds_toArray, List.set_cons_zero, List.set_cons_succ] at hF
      generalize uF 1 = x12 at h12 hF
      generalize uF 6 = x17 at h17 hF
      generalize uF 10 = x21 at h21 hF
      generalize uF 12 = x23 at h23 hF
      obtain rfl : x12 = (.int .i64 (((gr % 256 : Nat)) : Int)) := h12
      obtain rfl : x17 = (.slice At nt ct) := h17
      obtain rfl : x21 = (.slice (some ⟨gs, 6, none⟩) 32 32) := h21
      obtain rfl : x23 = (.slice A m c) := h23
      subst hF
      go_wp2_with ((go_at_call 48; refine (right_c _ (OwB.sl (OwB.below HC2.out hC)) (ch_sl (HC1.out.below hC HC1.out.lt) H.out.lch) ((HD.out.below ((hbv.trans (hC.mono hz)).mono hB)).more (Nat.le_trans hB (Nat.le_trans hz hC.size))) (Nat.le_refl _) (by omega) (by omega) r HR.out).mono ?_; rintro e W1 ⟨rfl, hb⟩))
      exact ⟨rfl, rfl, hb, rfl⟩
    · intro uF W hC' hU aF hF
      have hC : Below v.heap.size v W := hC'
      clear hC'
      have h24 : (Det (.bool r)) (uF 13) W := hU.1
      clear hU
      simp only [puts, Act.put, List.setIfInBounds_toArray, List.set_cons_zero, List.set_cons_succ] at hF
      generalize uF 13 = x24 at h24 hF
      obtain rfl : x24 = (.bool r) := h24
      subst hF
      go_wp2_with (fail)
      exact ⟨rfl, rfl, (Below.refl _ _), rfl⟩
  intro uF W5 hC' hU aF hF
  have hCW5 : Below v.heap.size v W5 := hC'
  clear hC'
  have h25 : (Det (.bool (!r))) (uF 14) W5 := hU.2.2.2.2.2.2.2.2.2.2.2.2.2.2.1
  clear hU
  simp only [puts, Act.put, List.setIfInBounds_toArray, List.set_cons_zero, List.set_cons_succ] at hF
  generalize uF 0 = x11 at hF
  generalize uF 1 = x12 at hF
  generalize uF 2 = x13 at hF
  generalize uF 3 = x14 at hF
  generalize uF 4 = x15 at hF
  generalize uF 5 = x16 at hF
  generalize uF 6 = x17 at hF
  generalize uF 7 = x18 at hF
  generalize uF 8 = x19 at hF
  generalize uF 9 = x20 at hF
  generalize uF 10 = x21 at hF
  generalize uF 11 = x22 at hF
  generalize uF 12 = x23 at hF
  generalize uF 13 = x24 at hF
  generalize uF 14 = x25 at h25 hF
  obtain rfl : x25 = (.bool (!r)) := h25
  subst hF
  have hzW := hCW5.size
  have h5 := H.out.below hCW5
  have d45 := h5.c4
  have f45 := h5.fz 4
  have HB25 := Lib.hid (HB2.out.below hCW5 HB2.out.lt)
  have hw5 := hbv.trans (hCW5.mono hz)
  cases r with
  | false =>
    obtain ⟨V6, hV6⟩ : ∃ V6, V6 = W5.setCell ⟨gs, 4, none⟩ (.int .i64 0) := ⟨_, rfl⟩
    have h6 := h5.setSt 0
    rw [← hV6] at h6
    have b26 : Blk V6 (w.heap.size + 1) 42 #[.slice none 0 0, .bool false, .bool false] := by rw [hV6]; exact HB25.out.far (by show w.heap.size + 1 ≠ gs; omega) _
    have hw6 : Below base w V6 := by rw [hV6]; exact (hw5.mono hbw).setCell (p := ⟨gs, 4, none⟩) h.hb _
    have hz6 : V6.heap.size = W5.heap.size := by rw [hV6, World.size_setCell]
    have HF6 := Lib.hid (show Fr [gs] w V6 by rw [hV6]; exact ((Fr.below hbv).trans (Fr.below hCW5)).grown (grownBy_setCell _ gs 4 _) (.inl (by simp)))
    have HV6 := Lib.hid hV6
    have H6 := Lib.hid h6
    have HB26 := Lib.hid b26
    clear h5 h6 hV6 b26
    go_wp2_with (first
      | (go_at_call 34; rw [← HV6.out]; refine (rejects_c 12 V6).mono ?_; rintro e w3 ⟨g, rfl, hg, q3, hb3⟩; have b23 := HB26.out.below hb3 HB26.out.lt; have hz3 := hb3.size)
      | ((with_reducible show wpList _ _ _ (Oper.mk none (Op.store 42 (.tmp 4) (.tmp 29)) _ _ _ _ :: _) _ _); refine wpList_store_whole rfl 42 (.tmp 4) (.tmp 29) rfl (w.heap.size + 1) rfl [.slice (some ⟨g, 0, none⟩) 1 1, .bool false, .bool false] rfl aggSt rfl _ _ b23 rfl (by simp [Value.oneCell']) ?_; intro w8 b8 g8 s8))
    refine bodyPost_ret (results_cell_one rfl _ (w.heap.size + 1) _ #[.slice (some ⟨g, 0, none⟩) 1 1, .bool false, .bool false] aggSt rfl rfl b8) rfl ⟨?_, ?_, (HF6.out.trans (Fr.below hb3)).grown g8 (.inr (by omega))⟩
    · exact ⟨⟨g, rfl, by omega, q3.grown g8 (by simp; omega)⟩, (H6.out.below hb3).step b23 g8⟩
    · exact (hw6.trans (hb3.mono (by omega))).grown g8 (by omega) (fun k hk => by cases hk; omega)
  | true =>
    have hB := buildFr4
    obtain ⟨V6, hV6⟩ : ∃ V6, V6 = W5.setCell ⟨gs, 4, none⟩ (.int .i64 2) := ⟨_, rfl⟩
    have h6 := h5.setSt 2
    rw [← hV6] at h6
    have b26 : Blk V6 (w.heap.size + 1) 42 #[.slice none 0 0, .bool false, .bool false] := by rw [hV6]; exact HB25.out.far (by show w.heap.size + 1 ≠ gs; omega) _
    have hw6 : Below base w V6 := by rw [hV6]; exact (hw5.mono hbw).setCell (p := ⟨gs, 4, none⟩) h.hb _
    have hz6 : V6.heap.size = W5.heap.size := by rw [hV6, World.size_setCell]
    have d386 := h6.c38
    have f386 := h6.fz 38
    obtain ⟨V7, hV7⟩ : ∃ V7, V7 = V6.setCell ⟨gs, 38, none⟩ (.int .i64 1) := ⟨_, rfl⟩
    have h7 := h6.setNx 1
    rw [← hV7] at h7
    have b27 : Blk V7 (w.heap.size + 1) 42 #[.slice none 0 0, .bool false, .bool false] := by rw [hV7]; exact b26.far (by show w.heap.size + 1 ≠ gs; omega) _
    have hw7 : Below base w V7 := by rw [hV7]; exact hw6.setCell (p := ⟨gs, 38, none⟩) h.hb _
    have hz7 : V7.heap.size = W5.heap.size := by rw [hV7, World.size_setCell, hz6]
    have HF7 := Lib.hid (show Fr [gs] w V7 by rw [hV7, hV6]; exact (((Fr.below hbv).trans (Fr.below hCW5)).grown (grownBy_setCell _ gs 4 _) (.inl (by simp))).grown (grownBy_setCell _ gs 38 _) (.inl (by simp)))
    rw [hV6] at d386 f386 hV7
    have HV7 := Lib.hid hV7
    have H7 := Lib.hid h7
    have HB27 := Lib.hid b27
    clear h5 h6 h7 hV6 hV7 b26 b27
    go_wp2_with (first
      | (go_at_call 46; rw [← HV7.out]; refine (says_c 4 0 0 none 0 0 V7).mono ?_; rintro e w3 ⟨g, rfl, hg, q3, hb3⟩; have b23 := HB27.out.below hb3 HB27.out.lt; have hz3 := hb3.size)
      | ((with_reducible show wpList _ _ _ (Oper.mk none (Op.store 42 (.tmp 4) (.tmp 37)) _ _ _ _ :: _) _ _); refine wpList_store_whole rfl 42 (.tmp 4) (.tmp 37) rfl (w.heap.size + 1) rfl [.slice (some ⟨g, 0, none⟩) 1 1, .bool false, .bool false] rfl aggSt rfl _ _ b23 rfl (by simp [Value.oneCell']) ?_; intro w8 b8 g8 s8))
    refine bodyPost_ret (results_cell_one rfl _ (w.heap.size + 1) _ #[.slice (some ⟨g, 0, none⟩) 1 1, .bool false, .bool false] aggSt rfl rfl b8) rfl ⟨?_, ?_, (HF7.out.trans (Fr.below hb3)).grown g8 (.inr (by omega))⟩
    · exact ⟨⟨g, rfl, by omega, q3.grown g8 (by simp; omega)⟩, (H7.out.below hb3).step b23 g8⟩
    · exact (hw7.trans (hb3.mono (by omega))).grown g8 (by omega) (fun k hk => by cases hk; omega)
end Go.Proofs.Ytiadfbcdopfibaa

