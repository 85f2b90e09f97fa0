/-
  login: an op's frame (printed by wip/gen_login10.py).
-/
import Derived.Test.YtiadfbcdopfibaaLoginS
namespace Go.Proofs.Ytiadfbcdopfibaa
open Go.RowKit
set_option linter.unusedVariables false
set_option linter.unusedSimpArgs false
set_option maxRecDepth 100000
/-- What an op's frame is. -/
def frm (init : Int) (th : List UInt8) (s : Sst) (ow : Bool) (k n : Int) (ds last : List UInt8) : Int × List UInt8 :=
  if ow = false then (n, ds) else if k = 1 then (init, ds) else if k = 3 then (n, ansOf (s.gr : Int) th last) else if k = 5 then ((if s.st = 2 then s.nx else 0), ds) else (n, ds)
def FrP (w : World) (B0 : Nat) (k x : Int) (r : Int × List UInt8) (e : Ending) (w' : World) : Prop :=
  ∃ (A : Option Addr) (m c : Nat), e = .returned (.agg #[.int .i64 k, .int .i64 r.1, .int .i64 x, .slice A m c]) ∧ SlB w' w'.heap.size A m c r.2 ∧ m ≤ 1048576 ∧ (0 < m → ∀ b off, A = some ⟨b, off, none⟩ → b < B0 ∨ w.heap.size ≤ b) ∧ Below w.heap.size w w'
set_option maxHeartbeats 4000000 in
theorem frame_no {w : World} {B0 base gs : Nat} {s : Sst} {th ou last : List UInt8} (k n x d tn init : Int) {At Ao A : Option Addr} {nt ct no co m c : Nat} {ds : List UInt8} (hse : Se w base gs init th ou s.st (s.gr : Int) s.ch s.nx) (hl : last.length = 32) (ht : SlB w w.heap.size At nt ct th) (hnt : nt ≤ 1048576) (hd : SlB w w.heap.size A m c ds) (hm : m ≤ 1048576) (hfar : 0 < m → ∀ b off, A = some ⟨b, off, none⟩ → b < B0) :
    Calls Try.prog 21 #[.agg #[.int .i64 k, .int .i64 n, .int .i64 x, .slice A m c, .int .i64 d, .bool false], .agg #[.int .i64 tn, .int .i64 init, .slice At nt ct, .slice Ao no co], .pointer (some ⟨gs, 0, none⟩), .agg (arr8 last)] w (FrP w B0 k x (n, ds)) := by
  have HDW := Lib.hid hd
  obtain ⟨v, hv⟩ : ∃ v, v = (((w.alloc (.cells #[.int .i64 k, .int .i64 n, .int .i64 x, .slice A m c, .int .i64 d, .bool false] 38)).alloc (.cells #[.int .i64 tn, .int .i64 init, .slice At nt ct, .slice Ao no co] 24)).alloc (.cells (arr8 last) 34)).alloc (.cells #[.int .i64 0, .int .i64 0, .int .i64 0, .slice none 0 0] 36) := ⟨_, rfl⟩
  obtain ⟨u, hu⟩ : ∃ u, u = v.alloc (.cells #[.int .i64 k, .int .i64 n, .int .i64 x, .slice A m c] 36) := ⟨_, rfl⟩
  obtain ⟨g5, hg5⟩ : ∃ g, g = w.heap.size + 1 := ⟨_, rfl⟩
  obtain ⟨g7, hg7⟩ : ∃ g, g = w.heap.size + 1 + 1 := ⟨_, rfl⟩
  obtain ⟨g8, hg8⟩ : ∃ g, g = w.heap.size + 1 + 1 + 1 := ⟨_, rfl⟩
  obtain ⟨g9, hg9⟩ : ∃ g, g = v.heap.size := ⟨_, rfl⟩
  have hzv : v.heap.size = w.heap.size + 4 := by rw [hv]; simp only [World.size_alloc]
  have b4 : Blk v w.heap.size 38 #[.int .i64 k, .int .i64 n, .int .i64 x, .slice A m c, .int .i64 d, .bool false] := by rw [hv]; exact (((Blk.new _ _ _).alloc _).alloc _).alloc _
  have b5 : Blk v g5 24 #[.int .i64 tn, .int .i64 init, .slice At nt ct, .slice Ao no co] := by
    have := ((Blk.new (w.alloc (.cells #[.int .i64 k, .int .i64 n, .int .i64 x, .slice A m c, .int .i64 d, .bool false] 38)) 24 #[.int .i64 tn, .int .i64 init, .slice At nt ct, .slice Ao no co]).alloc (.cells (arr8 last) 34)).alloc (.cells #[.int .i64 0, .int .i64 0, .int .i64 0, .slice none 0 0] 36)
    rw [World.size_alloc] at this
    rw [hv, hg5]; exact this
  have b7 : Blk v g7 34 (arr8 last) := by
    have := (Blk.new ((w.alloc (.cells #[.int .i64 k, .int .i64 n, .int .i64 x, .slice A m c, .int .i64 d, .bool false] 38)).alloc (.cells #[.int .i64 tn, .int .i64 init, .slice At nt ct, .slice Ao no co] 24)) 34 (arr8 last)).alloc (.cells #[.int .i64 0, .int .i64 0, .int .i64 0, .slice none 0 0] 36)
    rw [World.size_alloc, World.size_alloc] at this
    rw [hv, hg7]; exact this
  have b8 : Blk v g8 36 #[.int .i64 0, .int .i64 0, .int .i64 0, .slice none 0 0] := by
    have := Blk.new (((w.alloc (.cells #[.int .i64 k, .int .i64 n, .int .i64 x, .slice A m c, .int .i64 d, .bool false] 38)).alloc (.cells #[.int .i64 tn, .int .i64 init, .slice At nt ct, .slice Ao no co] 24)).alloc (.cells (arr8 last) 34)) 36 #[.int .i64 0, .int .i64 0, .int .i64 0, .slice none 0 0]
    rw [World.size_alloc, World.size_alloc, World.size_alloc] at this
    rw [hv, hg8]; exact this
  have b9 : Blk u g9 36 #[.int .i64 k, .int .i64 n, .int .i64 x, .slice A m c] := by rw [hu, hg9]; exact Blk.new _ _ _
  have hbv : Below w.heap.size w v := by
    rw [hv]
    exact ((((Below.refl _ _).alloc (Nat.le_refl _) _).alloc (by simp) _).alloc (by simp only [World.size_alloc]; omega) _).alloc (by simp only [World.size_alloc]; omega) _
  have hvu : Below v.heap.size v u := by rw [hu]; exact below_alloc _ _
  have hwu := hbv.trans (hvu.mono hbv.size)
  have hzu : u.heap.size = v.heap.size + 1 := by rw [hu, World.size_alloc]
  have c4 := b4.below hvu b4.lt
  have c5 := b5.below hvu b5.lt
  have c7 := b7.below hvu b7.lt
  have c8 := b8.below hvu b8.lt
  have hG : w.heap.size < g5 ∧ g5 < g7 ∧ g7 < g8 ∧ g8 < g9 := by omega
  have hzw := hbv.size
  have HZV := Lib.hid hzv
  have HZU := Lib.hid hzu
  have HV := Lib.hid hv
  have HU := Lib.hid hu
  have HG5 := Lib.hid hg5
  have HG7 := Lib.hid hg7
  have HG8 := Lib.hid hg8
  have HG9 := Lib.hid hg9
  have HB4 := Lib.hid b4
  have HC4 := Lib.hid c4
  have HC5 := Lib.hid c5
  have HC7 := Lib.hid c7
  have HC8 := Lib.hid c8
  have HC9 := Lib.hid b9
  have HWU := Lib.hid hwu
  have HSE := Lib.hid (hse.below hwu |> fun h => (h : Se u base gs init th ou s.st (s.gr : Int) s.ch s.nx))
  have HT := Lib.hid ((ht.below hwu).more hwu.size)
  have HDU := Lib.hid (hd.below hwu)
  have HLL := Lib.hid hl
  have d5 : u.cell? ⟨w.heap.size, 5, none⟩ = some (.bool false) := by rw [c4.cell]; rfl
  have d90 : u.cell? ⟨g9, 0, none⟩ = some (.int .i64 k) := by rw [b9.cell]; rfl
  clear hv hu hg5 hg7 hg8 hg9 b4 b5 b7 b8 b9 c4 c5 c7 c8 hbv hvu hwu hse ht hd hl hzv hzu
  go_enter Try.func21, Try.ntmps21
  go_wp2_with (first
    | ((with_reducible show wpList _ _ _ (Oper.mk (some 8) (Op.alloc _) _ _ _ _ :: _) _ _); refine wpList_alloc_agg rfl 36 rfl #[.int .i64 0, .int .i64 0, .int .i64 0, .slice none 0 0] zeroFr ?_; simp only [World.size_alloc]; rw [← HV.out, ← HG8.out, ← HG7.out, ← HG5.out])
    | ((with_reducible show wpList _ _ _ (Oper.mk (some 12) (Op.load 36 _) _ _ _ _ :: _) _ _); refine wpList_load_agg rfl 36 (.tmp 11) rfl w.heap.size 0 rfl #[.int .i64 k, .int .i64 n, .int .i64 x, .slice A m c] aggFr rfl (fun j q hj => by rw [Nat.zero_add, HB4.out.cell]; match j, hj with | 0, h => exact h | 1, h => exact h | 2, h => exact h | 3, h => exact h | j + 4, h => simp at h) ?_)
    | ((with_reducible show wpList _ _ _ (Oper.mk (some 13) _ _ _ _ _ :: _) _ _); rw [← HU.out, ← HG9.out])
    | ((with_reducible show wpList _ _ _ (Oper.mk (some 16) (Op.load 36 (.tmp 9)) _ _ _ _ :: _) _ _); refine wpList_load_whole (by rfl) 36 (.tmp 9) rfl g9 rfl #[.int .i64 k, .int .i64 n, .int .i64 x, .slice A m c] aggFr rfl _ (HC9.out) ?_)
    | ((with_reducible show wpList _ _ _ (Oper.mk none (Op.store 36 (.tmp 8) (.tmp 16)) _ _ _ _ :: _) _ _); refine wpList_store_whole rfl 36 (.tmp 8) (.tmp 16) rfl g8 rfl [.int .i64 k, .int .i64 n, .int .i64 x, .slice A m c] rfl aggFr rfl _ _ (HC8.out) rfl (by simp [Value.oneCell']) ?_; intro w8 k8 q8 s8))
  have hwf : Below w.heap.size w w8 := (HWU.out).grown q8 (HWU.out).size (fun k hk => by cases hk; omega)
  refine bodyPost_ret (results_cell_one rfl _ g8 _ #[.int .i64 k, .int .i64 n, .int .i64 x, .slice A m c] aggFr rfl rfl k8) rfl ⟨A, m, c, rfl, ?_, hm, fun h b off e => .inl (hfar h b off e), hwf⟩
  exact (HDW.out.below hwf).more hwf.size
set_option maxHeartbeats 4000000 in
theorem frame_other {w : World} {B0 base gs : Nat} {s : Sst} {th ou last : List UInt8} (k n x d tn init : Int) {At Ao A : Option Addr} {nt ct no co m c : Nat} {ds : List UInt8} (hse : Se w base gs init th ou s.st (s.gr : Int) s.ch s.nx) (hl : last.length = 32) (ht : SlB w w.heap.size At nt ct th) (hnt : nt ≤ 1048576) (hd : SlB w w.heap.size A m c ds) (hm : m ≤ 1048576) (hfar : 0 < m → ∀ b off, A = some ⟨b, off, none⟩ → b < B0) (h1 : k ≠ 1) (h3 : k ≠ 3) (h5 : k ≠ 5) :
    Calls Try.prog 21 #[.agg #[.int .i64 k, .int .i64 n, .int .i64 x, .slice A m c, .int .i64 d, .bool true], .agg #[.int .i64 tn, .int .i64 init, .slice At nt ct, .slice Ao no co], .pointer (some ⟨gs, 0, none⟩), .agg (arr8 last)] w (FrP w B0 k x (n, ds)) := by
  have HDW := Lib.hid hd
  have q1 : (k == 1) = false := by simpa using h1
  have q3 : (k == 3) = false := by simpa using h3
  have q5 : (k == 5) = false := by simpa using h5
  clear h1 h3 h5
  obtain ⟨v, hv⟩ : ∃ v, v = (((w.alloc (.cells #[.int .i64 k, .int .i64 n, .int .i64 x, .slice A m c, .int .i64 d, .bool true] 38)).alloc (.cells #[.int .i64 tn, .int .i64 init, .slice At nt ct, .slice Ao no co] 24)).alloc (.cells (arr8 last) 34)).alloc (.cells #[.int .i64 0, .int .i64 0, .int .i64 0, .slice none 0 0] 36) := ⟨_, rfl⟩
  obtain ⟨u, hu⟩ : ∃ u, u = v.alloc (.cells #[.int .i64 k, .int .i64 n, .int .i64 x, .slice A m c] 36) := ⟨_, rfl⟩
  obtain ⟨g5, hg5⟩ : ∃ g, g = w.heap.size + 1 := ⟨_, rfl⟩
  obtain ⟨g7, hg7⟩ : ∃ g, g = w.heap.size + 1 + 1 := ⟨_, rfl⟩
  obtain ⟨g8, hg8⟩ : ∃ g, g = w.heap.size + 1 + 1 + 1 := ⟨_, rfl⟩
  obtain ⟨g9, hg9⟩ : ∃ g, g = v.heap.size := ⟨_, rfl⟩
  have hzv : v.heap.size = w.heap.size + 4 := by rw [hv]; simp only [World.size_alloc]
  have b4 : Blk v w.heap.size 38 #[.int .i64 k, .int .i64 n, .int .i64 x, .slice A m c, .int .i64 d, .bool true] := by rw [hv]; exact (((Blk.new _ _ _).alloc _).alloc _).alloc _
  have b5 : Blk v g5 24 #[.int .i64 tn, .int .i64 init, .slice At nt ct, .slice Ao no co] := by
    have := ((Blk.new (w.alloc (.cells #[.int .i64 k, .int .i64 n, .int .i64 x, .slice A m c, .int .i64 d, .bool true] 38)) 24 #[.int .i64 tn, .int .i64 init, .slice At nt ct, .slice Ao no co]).alloc (.cells (arr8 last) 34)).alloc (.cells #[.int .i64 0, .int .i64 0, .int .i64 0, .slice none 0 0] 36)
    rw [World.size_alloc] at this
    rw [hv, hg5]; exact this
  have b7 : Blk v g7 34 (arr8 last) := by
    have := (Blk.new ((w.alloc (.cells #[.int .i64 k, .int .i64 n, .int .i64 x, .slice A m c, .int .i64 d, .bool true] 38)).alloc (.cells #[.int .i64 tn, .int .i64 init, .slice At nt ct, .slice Ao no co] 24)) 34 (arr8 last)).alloc (.cells #[.int .i64 0, .int .i64 0, .int .i64 0, .slice none 0 0] 36)
    rw [World.size_alloc, World.size_alloc] at this
    rw [hv, hg7]; exact this
  have b8 : Blk v g8 36 #[.int .i64 0, .int .i64 0, .int .i64 0, .slice none 0 0] := by
    have := Blk.new (((w.alloc (.cells #[.int .i64 k, .int .i64 n, .int .i64 x, .slice A m c, .int .i64 d, .bool true] 38)).alloc (.cells #[.int .i64 tn, .int .i64 init, .slice At nt ct, .slice Ao no co] 24)).alloc (.cells (arr8 last) 34)) 36 #[.int .i64 0, .int .i64 0, .int .i64 0, .slice none 0 0]
    rw [World.size_alloc, World.size_alloc, World.size_alloc] at this
    rw [hv, hg8]; exact this
  have b9 : Blk u g9 36 #[.int .i64 k, .int .i64 n, .int .i64 x, .slice A m c] := by rw [hu, hg9]; exact Blk.new _ _ _
  have hbv : Below w.heap.size w v := by
    rw [hv]
    exact ((((Below.refl _ _).alloc (Nat.le_refl _) _).alloc (by simp) _).alloc (by simp only [World.size_alloc]; omega) _).alloc (by simp only [World.size_alloc]; omega) _
  have hvu : Below v.heap.size v u := by rw [hu]; exact below_alloc _ _
  have hwu := hbv.trans (hvu.mono hbv.size)
  have hzu : u.heap.size = v.heap.size + 1 := by rw [hu, World.size_alloc]
  have c4 := b4.below hvu b4.lt
  have c5 := b5.below hvu b5.lt
  have c7 := b7.below hvu b7.lt
  have c8 := b8.below hvu b8.lt
  have hG : w.heap.size < g5 ∧ g5 < g7 ∧ g7 < g8 ∧ g8 < g9 := by omega
  have hzw := hbv.size
  have HZV := Lib.hid hzv
  have HZU := Lib.hid hzu
  have HV := Lib.hid hv
  have HU := Lib.hid hu
  have HG5 := Lib.hid hg5
  have HG7 := Lib.hid hg7
  have HG8 := Lib.hid hg8
  have HG9 := Lib.hid hg9
  have HB4 := Lib.hid b4
  have HC4 := Lib.hid c4
  have HC5 := Lib.hid c5
  have HC7 := Lib.hid c7
  have HC8 := Lib.hid c8
  have HC9 := Lib.hid b9
  have HWU := Lib.hid hwu
  have HSE := Lib.hid (hse.below hwu |> fun h => (h : Se u base gs init th ou s.st (s.gr : Int) s.ch s.nx))
  have HT := Lib.hid ((ht.below hwu).more hwu.size)
  have HDU := Lib.hid (hd.below hwu)
  have HLL := Lib.hid hl
  have d5 : u.cell? ⟨w.heap.size, 5, none⟩ = some (.bool true) := by rw [c4.cell]; rfl
  have d90 : u.cell? ⟨g9, 0, none⟩ = some (.int .i64 k) := by rw [b9.cell]; rfl
  clear hv hu hg5 hg7 hg8 hg9 b4 b5 b7 b8 b9 c4 c5 c7 c8 hbv hvu hwu hse ht hd hl hzv hzu
  go_enter Try.func21, Try.ntmps21
  go_wp2_with (first
    | ((with_reducible show wpList _ _ _ (Oper.mk (some 8) (Op.alloc _) _ _ _ _ :: _) _ _); refine wpList_alloc_agg rfl 36 rfl #[.int .i64 0, .int .i64 0, .int .i64 0, .slice none 0 0] zeroFr ?_; simp only [World.size_alloc]; rw [← HV.out, ← HG8.out, ← HG7.out, ← HG5.out])
    | ((with_reducible show wpList _ _ _ (Oper.mk (some 12) (Op.load 36 _) _ _ _ _ :: _) _ _); refine wpList_load_agg rfl 36 (.tmp 11) rfl w.heap.size 0 rfl #[.int .i64 k, .int .i64 n, .int .i64 x, .slice A m c] aggFr rfl (fun j q hj => by rw [Nat.zero_add, HB4.out.cell]; match j, hj with | 0, h => exact h | 1, h => exact h | 2, h => exact h | 3, h => exact h | j + 4, h => simp at h) ?_)
    | ((with_reducible show wpList _ _ _ (Oper.mk (some 13) _ _ _ _ _ :: _) _ _); rw [← HU.out, ← HG9.out])
    | ((with_reducible show wpList _ _ _ (Oper.mk (some 39) (Op.load 36 (.tmp 9)) _ _ _ _ :: _) _ _); refine wpList_load_whole (by rfl) 36 (.tmp 9) rfl g9 rfl #[.int .i64 k, .int .i64 n, .int .i64 x, .slice A m c] aggFr rfl _ (HC9.out) ?_)
    | ((with_reducible show wpList _ _ _ (Oper.mk none (Op.store 36 (.tmp 8) (.tmp 39)) _ _ _ _ :: _) _ _); refine wpList_store_whole rfl 36 (.tmp 8) (.tmp 39) rfl g8 rfl [.int .i64 k, .int .i64 n, .int .i64 x, .slice A m c] rfl aggFr rfl _ _ (HC8.out) rfl (by simp [Value.oneCell']) ?_; intro w8 k8 q8 s8))
  have hwf : Below w.heap.size w w8 := (HWU.out).grown q8 (HWU.out).size (fun k hk => by cases hk; omega)
  refine bodyPost_ret (results_cell_one rfl _ g8 _ #[.int .i64 k, .int .i64 n, .int .i64 x, .slice A m c] aggFr rfl rfl k8) rfl ⟨A, m, c, rfl, ?_, hm, fun h b off e => .inl (hfar h b off e), hwf⟩
  exact (HDW.out.below hwf).more hwf.size
set_option maxHeartbeats 4000000 in
theorem frame_1 {w : World} {B0 base gs : Nat} {s : Sst} {th ou last : List UInt8} (n x d tn init : Int) {At Ao A : Option Addr} {nt ct no co m c : Nat} {ds : List UInt8} (hse : Se w base gs init th ou s.st (s.gr : Int) s.ch s.nx) (hl : last.length = 32) (ht : SlB w w.heap.size At nt ct th) (hnt : nt ≤ 1048576) (hd : SlB w w.heap.size A m c ds) (hm : m ≤ 1048576) (hfar : 0 < m → ∀ b off, A = some ⟨b, off, none⟩ → b < B0) :
    Calls Try.prog 21 #[.agg #[.int .i64 1, .int .i64 n, .int .i64 x, .slice A m c, .int .i64 d, .bool true], .agg #[.int .i64 tn, .int .i64 init, .slice At nt ct, .slice Ao no co], .pointer (some ⟨gs, 0, none⟩), .agg (arr8 last)] w (FrP w B0 1 x (init, ds)) := by
  have HDW := Lib.hid hd
  have q1 : ((1 : Int) == 1) = true := by decide
  have q3 : ((1 : Int) == 3) = false := by decide
  have q5 : ((1 : Int) == 5) = false := by decide
  obtain ⟨v, hv⟩ : ∃ v, v = (((w.alloc (.cells #[.int .i64 1, .int .i64 n, .int .i64 x, .slice A m c, .int .i64 d, .bool true] 38)).alloc (.cells #[.int .i64 tn, .int .i64 init, .slice At nt ct, .slice Ao no co] 24)).alloc (.cells (arr8 last) 34)).alloc (.cells #[.int .i64 0, .int .i64 0, .int .i64 0, .slice none 0 0] 36) := ⟨_, rfl⟩
  obtain ⟨u, hu⟩ : ∃ u, u = v.alloc (.cells #[.int .i64 1, .int .i64 n, .int .i64 x, .slice A m c] 36) := ⟨_, rfl⟩
  obtain ⟨g5, hg5⟩ : ∃ g, g = w.heap.size + 1 := ⟨_, rfl⟩
  obtain ⟨g7, hg7⟩ : ∃ g, g = w.heap.size + 1 + 1 := ⟨_, rfl⟩
  obtain ⟨g8, hg8⟩ : ∃ g, g = w.heap.size + 1 + 1 + 1 := ⟨_, rfl⟩
  obtain ⟨g9, hg9⟩ : ∃ g, g = v.heap.size := ⟨_, rfl⟩
  have hzv : v.heap.size = w.heap.size + 4 := by rw [hv]; simp only [World.size_alloc]
  have b4 : Blk v w.heap.size 38 #[.int .i64 1, .int .i64 n, .int .i64 x, .slice A m c, .int .i64 d, .bool true] := by rw [hv]; exact (((Blk.new _ _ _).alloc _).alloc _).alloc _
  have b5 : Blk v g5 24 #[.int .i64 tn, .int .i64 init, .slice At nt ct, .slice Ao no co] := by
    have := ((Blk.new (w.alloc (.cells #[.int .i64 1, .int .i64 n, .int .i64 x, .slice A m c, .int .i64 d, .bool true] 38)) 24 #[.int .i64 tn, .int .i64 init, .slice At nt ct, .slice Ao no co]).alloc (.cells (arr8 last) 34)).alloc (.cells #[.int .i64 0, .int .i64 0, .int .i64 0, .slice none 0 0] 36)
    rw [World.size_alloc] at this
    rw [hv, hg5]; exact this
  have b7 : Blk v g7 34 (arr8 last) := by
    have := (Blk.new ((w.alloc (.cells #[.int .i64 1, .int .i64 n, .int .i64 x, .slice A m c, .int .i64 d, .bool true] 38)).alloc (.cells #[.int .i64 tn, .int .i64 init, .slice At nt ct, .slice Ao no co] 24)) 34 (arr8 last)).alloc (.cells #[.int .i64 0, .int .i64 0, .int .i64 0, .slice none 0 0] 36)
    rw [World.size_alloc, World.size_alloc] at this
    rw [hv, hg7]; exact this
  have b8 : Blk v g8 36 #[.int .i64 0, .int .i64 0, .int .i64 0, .slice none 0 0] := by
    have := Blk.new (((w.alloc (.cells #[.int .i64 1, .int .i64 n, .int .i64 x, .slice A m c, .int .i64 d, .bool true] 38)).alloc (.cells #[.int .i64 tn, .int .i64 init, .slice At nt ct, .slice Ao no co] 24)).alloc (.cells (arr8 last) 34)) 36 #[.int .i64 0, .int .i64 0, .int .i64 0, .slice none 0 0]
    rw [World.size_alloc, World.size_alloc, World.size_alloc] at this
    rw [hv, hg8]; exact this
  have b9 : Blk u g9 36 #[.int .i64 1, .int .i64 n, .int .i64 x, .slice A m c] := by rw [hu, hg9]; exact Blk.new _ _ _
  have hbv : Below w.heap.size w v := by
    rw [hv]
    exact ((((Below.refl _ _).alloc (Nat.le_refl _) _).alloc (by simp) _).alloc (by simp only [World.size_alloc]; omega) _).alloc (by simp only [World.size_alloc]; omega) _
  have hvu : Below v.heap.size v u := by rw [hu]; exact below_alloc _ _
  have hwu := hbv.trans (hvu.mono hbv.size)
  have hzu : u.heap.size = v.heap.size + 1 := by rw [hu, World.size_alloc]
  have c4 := b4.below hvu b4.lt
  have c5 := b5.below hvu b5.lt
  have c7 := b7.below hvu b7.lt
  have c8 := b8.below hvu b8.lt
  have hG : w.heap.size < g5 ∧ g5 < g7 ∧ g7 < g8 ∧ g8 < g9 := by omega
  have hzw := hbv.size
  have HZV := Lib.hid hzv
  have HZU := Lib.hid hzu
  have HV := Lib.hid hv
  have HU := Lib.hid hu
  have HG5 := Lib.hid hg5
  have HG7 := Lib.hid hg7
  have HG8 := Lib.hid hg8
  have HG9 := Lib.hid hg9
  have HB4 := Lib.hid b4
  have HC4 := Lib.hid c4
  have HC5 := Lib.hid c5
  have HC7 := Lib.hid c7
  have HC8 := Lib.hid c8
  have HC9 := Lib.hid b9
  have HWU := Lib.hid hwu
  have HSE := Lib.hid (hse.below hwu |> fun h => (h : Se u base gs init th ou s.st (s.gr : Int) s.ch s.nx))
  have HT := Lib.hid ((ht.below hwu).more hwu.size)
  have HDU := Lib.hid (hd.below hwu)
  have HLL := Lib.hid hl
  have d5 : u.cell? ⟨w.heap.size, 5, none⟩ = some (.bool true) := by rw [c4.cell]; rfl
  have d90 : u.cell? ⟨g9, 0, none⟩ = some (.int .i64 1) := by rw [b9.cell]; rfl
  clear hv hu hg5 hg7 hg8 hg9 b4 b5 b7 b8 b9 c4 c5 c7 c8 hbv hvu hwu hse ht hd hl hzv hzu
  have f91 := HC9.out.frozen 1
  have d91 : u.cell? ⟨g9, 1, none⟩ = some (.int .i64 n) := by rw [HC9.out.cell]; rfl
  have e51 : u.cell? ⟨g5, 1, none⟩ = some (.int .i64 init) := by rw [HC5.out.cell]; rfl
  go_enter Try.func21, Try.ntmps21
  go_wp2_with (first
    | ((with_reducible show wpList _ _ _ (Oper.mk (some 8) (Op.alloc _) _ _ _ _ :: _) _ _); refine wpList_alloc_agg rfl 36 rfl #[.int .i64 0, .int .i64 0, .int .i64 0, .slice none 0 0] zeroFr ?_; simp only [World.size_alloc]; rw [← HV.out, ← HG8.out, ← HG7.out, ← HG5.out])
    | ((with_reducible show wpList _ _ _ (Oper.mk (some 12) (Op.load 36 _) _ _ _ _ :: _) _ _); refine wpList_load_agg rfl 36 (.tmp 11) rfl w.heap.size 0 rfl #[.int .i64 1, .int .i64 n, .int .i64 x, .slice A m c] aggFr rfl (fun j q hj => by rw [Nat.zero_add, HB4.out.cell]; match j, hj with | 0, h => exact h | 1, h => exact h | 2, h => exact h | 3, h => exact h | j + 4, h => simp at h) ?_)
    | ((with_reducible show wpList _ _ _ (Oper.mk (some 13) _ _ _ _ _ :: _) _ _); rw [← HU.out, ← HG9.out])
    | ((with_reducible show wpList _ _ _ (Oper.mk (some 39) (Op.load 36 (.tmp 9)) _ _ _ _ :: _) _ _); refine wpList_load_whole (by rfl) 36 (.tmp 9) rfl g9 rfl #[.int .i64 1, .int .i64 init, .int .i64 x, .slice A m c] aggFr rfl _ (HC9.out.set_ 1 (.int .i64 init)) ?_)
    | ((with_reducible show wpList _ _ _ (Oper.mk none (Op.store 36 (.tmp 8) (.tmp 39)) _ _ _ _ :: _) _ _); refine wpList_store_whole rfl 36 (.tmp 8) (.tmp 39) rfl g8 rfl [.int .i64 1, .int .i64 init, .int .i64 x, .slice A m c] rfl aggFr rfl _ _ (HC8.out.far (p := ⟨g9, 1, none⟩) (by show g8 ≠ g9; omega) (.int .i64 init)) rfl (by simp [Value.oneCell']) ?_; intro w8 k8 q8 s8))
  have hwf : Below w.heap.size w w8 := (HWU.out.setCell (p := ⟨g9, 1, none⟩) (Nat.le_of_lt (show w.heap.size < g9 by omega)) (.int .i64 init)).grown q8 (HWU.out.setCell (p := ⟨g9, 1, none⟩) (Nat.le_of_lt (show w.heap.size < g9 by omega)) (.int .i64 init)).size (fun k hk => by cases hk; omega)
  refine bodyPost_ret (results_cell_one rfl _ g8 _ #[.int .i64 1, .int .i64 init, .int .i64 x, .slice A m c] aggFr rfl rfl k8) rfl ⟨A, m, c, rfl, ?_, hm, fun h b off e => .inl (hfar h b off e), hwf⟩
  exact (HDW.out.below hwf).more hwf.size
set_option maxHeartbeats 4000000 in
theorem frame_5 {w : World} {B0 base gs : Nat} {s : Sst} {th ou last : List UInt8} (n x d tn init : Int) {At Ao A : Option Addr} {nt ct no co m c : Nat} {ds : List UInt8} (hse : Se w base gs init th ou s.st (s.gr : Int) s.ch s.nx) (hl : last.length = 32) (ht : SlB w w.heap.size At nt ct th) (hnt : nt ≤ 1048576) (hd : SlB w w.heap.size A m c ds) (hm : m ≤ 1048576) (hfar : 0 < m → ∀ b off, A = some ⟨b, off, none⟩ → b < B0) :
    Calls Try.prog 21 #[.agg #[.int .i64 5, .int .i64 n, .int .i64 x, .slice A m c, .int .i64 d, .bool true], .agg #[.int .i64 tn, .int .i64 init, .slice At nt ct, .slice Ao no co], .pointer (some ⟨gs, 0, none⟩), .agg (arr8 last)] w (FrP w B0 5 x ((if s.st = 2 then s.nx else 0), ds)) := by
  have HDW := Lib.hid hd
  have q1 : ((5 : Int) == 1) = false := by decide
  have q3 : ((5 : Int) == 3) = false := by decide
  have q5 : ((5 : Int) == 5) = true := by decide
  obtain ⟨v, hv⟩ : ∃ v, v = (((w.alloc (.cells #[.int .i64 5, .int .i64 n, .int .i64 x, .slice A m c, .int .i64 d, .bool true] 38)).alloc (.cells #[.int .i64 tn, .int .i64 init, .slice At nt ct, .slice Ao no co] 24)).alloc (.cells (arr8 last) 34)).alloc (.cells #[.int .i64 0, .int .i64 0, .int .i64 0, .slice none 0 0] 36) := ⟨_, rfl⟩
  obtain ⟨u, hu⟩ : ∃ u, u = v.alloc (.cells #[.int .i64 5, .int .i64 n, .int .i64 x, .slice A m c] 36) := ⟨_, rfl⟩
  obtain ⟨g5, hg5⟩ : ∃ g, g = w.heap.size + 1 := ⟨_, rfl⟩
  obtain ⟨g7, hg7⟩ : ∃ g, g = w.heap.size + 1 + 1 := ⟨_, rfl⟩
  obtain ⟨g8, hg8⟩ : ∃ g, g = w.heap.size + 1 + 1 + 1 := ⟨_, rfl⟩
  obtain ⟨g9, hg9⟩ : ∃ g, g = v.heap.size := ⟨_, rfl⟩
  have hzv : v.heap.size = w.heap.size + 4 := by rw [hv]; simp only [World.size_alloc]
  have b4 : Blk v w.heap.size 38 #[.int .i64 5, .int .i64 n, .int .i64 x, .slice A m c, .int .i64 d, .bool true] := by rw [hv]; exact (((Blk.new _ _ _).alloc _).alloc _).alloc _
  have b5 : Blk v g5 24 #[.int .i64 tn, .int .i64 init, .slice At nt ct, .slice Ao no co] := by
    have := ((Blk.new (w.alloc (.cells #[.int .i64 5, .int .i64 n, .int .i64 x, .slice A m c, .int .i64 d, .bool true] 38)) 24 #[.int .i64 tn, .int .i64 init, .slice At nt ct, .slice Ao no co]).alloc (.cells (arr8 last) 34)).alloc (.cells #[.int .i64 0, .int .i64 0, .int .i64 0, .slice none 0 0] 36)
    rw [World.size_alloc] at this
    rw [hv, hg5]; exact this
  have b7 : Blk v g7 34 (arr8 last) := by
    have := (Blk.new ((w.alloc (.cells #[.int .i64 5, .int .i64 n, .int .i64 x, .slice A m c, .int .i64 d, .bool true] 38)).alloc (.cells #[.int .i64 tn, .int .i64 init, .slice At nt ct, .slice Ao no co] 24)) 34 (arr8 last)).alloc (.cells #[.int .i64 0, .int .i64 0, .int .i64 0, .slice none 0 0] 36)
    rw [World.size_alloc, World.size_alloc] at this
    rw [hv, hg7]; exact this
  have b8 : Blk v g8 36 #[.int .i64 0, .int .i64 0, .int .i64 0, .slice none 0 0] := by
    have := Blk.new (((w.alloc (.cells #[.int .i64 5, .int .i64 n, .int .i64 x, .slice A m c, .int .i64 d, .bool true] 38)).alloc (.cells #[.int .i64 tn, .int .i64 init, .slice At nt ct, .slice Ao no co] 24)).alloc (.cells (arr8 last) 34)) 36 #[.int .i64 0, .int .i64 0, .int .i64 0, .slice none 0 0]
    rw [World.size_alloc, World.size_alloc, World.size_alloc] at this
    rw [hv, hg8]; exact this
  have b9 : Blk u g9 36 #[.int .i64 5, .int .i64 n, .int .i64 x, .slice A m c] := by rw [hu, hg9]; exact Blk.new _ _ _
  have hbv : Below w.heap.size w v := by
    rw [hv]
    exact ((((Below.refl _ _).alloc (Nat.le_refl _) _).alloc (by simp) _).alloc (by simp only [World.size_alloc]; omega) _).alloc (by simp only [World.size_alloc]; omega) _
  have hvu : Below v.heap.size v u := by rw [hu]; exact below_alloc _ _
  have hwu := hbv.trans (hvu.mono hbv.size)
  have hzu : u.heap.size = v.heap.size + 1 := by rw [hu, World.size_alloc]
  have c4 := b4.below hvu b4.lt
  have c5 := b5.below hvu b5.lt
  have c7 := b7.below hvu b7.lt
  have c8 := b8.below hvu b8.lt
  have hG : w.heap.size < g5 ∧ g5 < g7 ∧ g7 < g8 ∧ g8 < g9 := by omega
  have hzw := hbv.size
  have HZV := Lib.hid hzv
  have HZU := Lib.hid hzu
  have HV := Lib.hid hv
  have HU := Lib.hid hu
  have HG5 := Lib.hid hg5
  have HG7 := Lib.hid hg7
  have HG8 := Lib.hid hg8
  have HG9 := Lib.hid hg9
  have HB4 := Lib.hid b4
  have HC4 := Lib.hid c4
  have HC5 := Lib.hid c5
  have HC7 := Lib.hid c7
  have HC8 := Lib.hid c8
  have HC9 := Lib.hid b9
  have HWU := Lib.hid hwu
  have HSE := Lib.hid (hse.below hwu |> fun h => (h : Se u base gs init th ou s.st (s.gr : Int) s.ch s.nx))
  have HT := Lib.hid ((ht.below hwu).more hwu.size)
  have HDU := Lib.hid (hd.below hwu)
  have HLL := Lib.hid hl
  have d5 : u.cell? ⟨w.heap.size, 5, none⟩ = some (.bool true) := by rw [c4.cell]; rfl
  have d90 : u.cell? ⟨g9, 0, none⟩ = some (.int .i64 5) := by rw [b9.cell]; rfl
  clear hv hu hg5 hg7 hg8 hg9 b4 b5 b7 b8 b9 c4 c5 c7 c8 hbv hvu hwu hse ht hd hl hzv hzu
  have f91 := HC9.out.frozen 1
  have d91 : u.cell? ⟨g9, 1, none⟩ = some (.int .i64 n) := by rw [HC9.out.cell]; rfl
  obtain ⟨nn, hnn⟩ : ∃ nn : Int, nn = (if s.st = 2 then s.nx else 0) := ⟨_, rfl⟩
  have HNN := Lib.hid hnn
  rw [← hnn]
  clear hnn
  go_enter Try.func21, Try.ntmps21
  go_wp2_with (first
    | ((with_reducible show wpList _ _ _ (Oper.mk (some 8) (Op.alloc _) _ _ _ _ :: _) _ _); refine wpList_alloc_agg rfl 36 rfl #[.int .i64 0, .int .i64 0, .int .i64 0, .slice none 0 0] zeroFr ?_; simp only [World.size_alloc]; rw [← HV.out, ← HG8.out, ← HG7.out, ← HG5.out])
    | ((with_reducible show wpList _ _ _ (Oper.mk (some 12) (Op.load 36 _) _ _ _ _ :: _) _ _); refine wpList_load_agg rfl 36 (.tmp 11) rfl w.heap.size 0 rfl #[.int .i64 5, .int .i64 n, .int .i64 x, .slice A m c] aggFr rfl (fun j q hj => by rw [Nat.zero_add, HB4.out.cell]; match j, hj with | 0, h => exact h | 1, h => exact h | 2, h => exact h | 3, h => exact h | j + 4, h => simp at h) ?_)
    | ((with_reducible show wpList _ _ _ (Oper.mk (some 13) _ _ _ _ _ :: _) _ _); rw [← HU.out, ← HG9.out])
    | (go_at_call 16; refine (next_c HSE.out nn HNN.out.symm).mono ?_; rintro e w9 ⟨rfl, rfl⟩)
    | ((with_reducible show wpList _ _ _ (Oper.mk (some 39) (Op.load 36 (.tmp 9)) _ _ _ _ :: _) _ _); refine wpList_load_whole (by rfl) 36 (.tmp 9) rfl g9 rfl #[.int .i64 5, .int .i64 nn, .int .i64 x, .slice A m c] aggFr rfl _ (HC9.out.set_ 1 (.int .i64 nn)) ?_)
    | ((with_reducible show wpList _ _ _ (Oper.mk none (Op.store 36 (.tmp 8) (.tmp 39)) _ _ _ _ :: _) _ _); refine wpList_store_whole rfl 36 (.tmp 8) (.tmp 39) rfl g8 rfl [.int .i64 5, .int .i64 nn, .int .i64 x, .slice A m c] rfl aggFr rfl _ _ (HC8.out.far (p := ⟨g9, 1, none⟩) (by show g8 ≠ g9; omega) (.int .i64 nn)) rfl (by simp [Value.oneCell']) ?_; intro w8 k8 q8 s8))
  have hwf : Below w.heap.size w w8 := (HWU.out.setCell (p := ⟨g9, 1, none⟩) (Nat.le_of_lt (show w.heap.size < g9 by omega)) (.int .i64 nn)).grown q8 (HWU.out.setCell (p := ⟨g9, 1, none⟩) (Nat.le_of_lt (show w.heap.size < g9 by omega)) (.int .i64 nn)).size (fun k hk => by cases hk; omega)
  refine bodyPost_ret (results_cell_one rfl _ g8 _ #[.int .i64 5, .int .i64 nn, .int .i64 x, .slice A m c] aggFr rfl rfl k8) rfl ⟨A, m, c, rfl, ?_, hm, fun h b off e => .inl (hfar h b off e), hwf⟩
  exact (HDW.out.below hwf).more hwf.size
set_option maxHeartbeats 4000000 in
theorem frame_3 {w : World} {B0 base gs : Nat} {s : Sst} {th ou last : List UInt8} (n x d tn init : Int) {At Ao A : Option Addr} {nt ct no co m c : Nat} {ds : List UInt8} (hse : Se w base gs init th ou s.st (s.gr : Int) s.ch s.nx) (hl : last.length = 32) (ht : SlB w w.heap.size At nt ct th) (hnt : nt ≤ 1048576) (hd : SlB w w.heap.size A m c ds) (hm : m ≤ 1048576) (hfar : 0 < m → ∀ b off, A = some ⟨b, off, none⟩ → b < B0) :
    Calls Try.prog 21 #[.agg #[.int .i64 3, .int .i64 n, .int .i64 x, .slice A m c, .int .i64 d, .bool true], .agg #[.int .i64 tn, .int .i64 init, .slice At nt ct, .slice Ao no co], .pointer (some ⟨gs, 0, none⟩), .agg (arr8 last)] w (FrP w B0 3 x (n, ansOf (s.gr : Int) th last)) := by
  have HDW := Lib.hid hd
  have q1 : ((3 : Int) == 1) = false := by decide
  have q3 : ((3 : Int) == 3) = true := by decide
  have q5 : ((3 : Int) == 5) = false := by decide
  obtain ⟨v, hv⟩ : ∃ v, v = (((w.alloc (.cells #[.int .i64 3, .int .i64 n, .int .i64 x, .slice A m c, .int .i64 d, .bool true] 38)).alloc (.cells #[.int .i64 tn, .int .i64 init, .slice At nt ct, .slice Ao no co] 24)).alloc (.cells (arr8 last) 34)).alloc (.cells #[.int .i64 0, .int .i64 0, .int .i64 0, .slice none 0 0] 36) := ⟨_, rfl⟩
  obtain ⟨u, hu⟩ : ∃ u, u = v.alloc (.cells #[.int .i64 3, .int .i64 n, .int .i64 x, .slice A m c] 36) := ⟨_, rfl⟩
  obtain ⟨g5, hg5⟩ : ∃ g, g = w.heap.size + 1 := ⟨_, rfl⟩
  obtain ⟨g7, hg7⟩ : ∃ g, g = w.heap.size + 1 + 1 := ⟨_, rfl⟩
  obtain ⟨g8, hg8⟩ : ∃ g, g = w.heap.size + 1 + 1 + 1 := ⟨_, rfl⟩
  obtain ⟨g9, hg9⟩ : ∃ g, g = v.heap.size := ⟨_, rfl⟩
  have hzv : v.heap.size = w.heap.size + 4 := by rw [hv]; simp only [World.size_alloc]
  have b4 : Blk v w.heap.size 38 #[.int .i64 3, .int .i64 n, .int .i64 x, .slice A m c, .int .i64 d, .bool true] := by rw [hv]; exact (((Blk.new _ _ _).alloc _).alloc _).alloc _
  have b5 : Blk v g5 24 #[.int .i64 tn, .int .i64 init, .slice At nt ct, .slice Ao no co] := by
    have := ((Blk.new (w.alloc (.cells #[.int .i64 3, .int .i64 n, .int .i64 x, .slice A m c, .int .i64 d, .bool true] 38)) 24 #[.int .i64 tn, .int .i64 init, .slice At nt ct, .slice Ao no co]).alloc (.cells (arr8 last) 34)).alloc (.cells #[.int .i64 0, .int .i64 0, .int .i64 0, .slice none 0 0] 36)
    rw [World.size_alloc] at this
    rw [hv, hg5]; exact this
  have b7 : Blk v g7 34 (arr8 last) := by
    have := (Blk.new ((w.alloc (.cells #[.int .i64 3, .int .i64 n, .int .i64 x, .slice A m c, .int .i64 d, .bool true] 38)).alloc (.cells #[.int .i64 tn, .int .i64 init, .slice At nt ct, .slice Ao no co] 24)) 34 (arr8 last)).alloc (.cells #[.int .i64 0, .int .i64 0, .int .i64 0, .slice none 0 0] 36)
    rw [World.size_alloc, World.size_alloc] at this
    rw [hv, hg7]; exact this
  have b8 : Blk v g8 36 #[.int .i64 0, .int .i64 0, .int .i64 0, .slice none 0 0] := by
    have := Blk.new (((w.alloc (.cells #[.int .i64 3, .int .i64 n, .int .i64 x, .slice A m c, .int .i64 d, .bool true] 38)).alloc (.cells #[.int .i64 tn, .int .i64 init, .slice At nt ct, .slice Ao no co] 24)).alloc (.cells (arr8 last) 34)) 36 #[.int .i64 0, .int .i64 0, .int .i64 0, .slice none 0 0]
    rw [World.size_alloc, World.size_alloc, World.size_alloc] at this
    rw [hv, hg8]; exact this
  have b9 : Blk u g9 36 #[.int .i64 3, .int .i64 n, .int .i64 x, .slice A m c] := by rw [hu, hg9]; exact Blk.new _ _ _
  have hbv : Below w.heap.size w v := by
    rw [hv]
    exact ((((Below.refl _ _).alloc (Nat.le_refl _) _).alloc (by simp) _).alloc (by simp only [World.size_alloc]; omega) _).alloc (by simp only [World.size_alloc]; omega) _
  have hvu : Below v.heap.size v u := by rw [hu]; exact below_alloc _ _
  have hwu := hbv.trans (hvu.mono hbv.size)
  have hzu : u.heap.size = v.heap.size + 1 := by rw [hu, World.size_alloc]
  have c4 := b4.below hvu b4.lt
  have c5 := b5.below hvu b5.lt
  have c7 := b7.below hvu b7.lt
  have c8 := b8.below hvu b8.lt
  have hG : w.heap.size < g5 ∧ g5 < g7 ∧ g7 < g8 ∧ g8 < g9 := by omega
  have hzw := hbv.size
  have HZV := Lib.hid hzv
  have HZU := Lib.hid hzu
  have HV := Lib.hid hv
  have HU := Lib.hid hu
  have HG5 := Lib.hid hg5
  have HG7 := Lib.hid hg7
  have HG8 := Lib.hid hg8
  have HG9 := Lib.hid hg9
  have HB4 := Lib.hid b4
  have HC4 := Lib.hid c4
  have HC5 := Lib.hid c5
  have HC7 := Lib.hid c7
  have HC8 := Lib.hid c8
  have HC9 := Lib.hid b9
  have HWU := Lib.hid hwu
  have HSE := Lib.hid (hse.below hwu |> fun h => (h : Se u base gs init th ou s.st (s.gr : Int) s.ch s.nx))
  have HT := Lib.hid ((ht.below hwu).more hwu.size)
  have HDU := Lib.hid (hd.below hwu)
  have HLL := Lib.hid hl
  have d5 : u.cell? ⟨w.heap.size, 5, none⟩ = some (.bool true) := by rw [c4.cell]; rfl
  have d90 : u.cell? ⟨g9, 0, none⟩ = some (.int .i64 3) := by rw [b9.cell]; rfl
  clear hv hu hg5 hg7 hg8 hg9 b4 b5 b7 b8 b9 c4 c5 c7 c8 hbv hvu hwu hse ht hd hl hzv hzu
  obtain ⟨rr, hrr⟩ : ∃ r, r = ansOf (s.gr : Int) th last := ⟨_, rfl⟩
  have HRL := Lib.hid (show rr.length = 32 by rw [hrr]; exact len_ansOf _ _ _)
  have HRR := Lib.hid hrr
  rw [← hrr]
  clear hrr
  go_enter Try.func21, Try.ntmps21
  go_wp2_with (first
    | ((with_reducible show wpList _ _ _ (Oper.mk (some 8) (Op.alloc _) _ _ _ _ :: _) _ _); refine wpList_alloc_agg rfl 36 rfl #[.int .i64 0, .int .i64 0, .int .i64 0, .slice none 0 0] zeroFr ?_; simp only [World.size_alloc]; rw [← HV.out, ← HG8.out, ← HG7.out, ← HG5.out])
    | ((with_reducible show wpList _ _ _ (Oper.mk (some 12) (Op.load 36 _) _ _ _ _ :: _) _ _); refine wpList_load_agg rfl 36 (.tmp 11) rfl w.heap.size 0 rfl #[.int .i64 3, .int .i64 n, .int .i64 x, .slice A m c] aggFr rfl (fun j q hj => by rw [Nat.zero_add, HB4.out.cell]; match j, hj with | 0, h => exact h | 1, h => exact h | 2, h => exact h | 3, h => exact h | j + 4, h => simp at h) ?_)
    | ((with_reducible show wpList _ _ _ (Oper.mk (some 13) _ _ _ _ _ :: _) _ _); rw [← HU.out, ← HG9.out])
    | fail)
  refine wp_norm ?_
  refine (wpIn_wide (n := 4)).1 ?_
  refine wpIn_region_rel free_wide rfl 7 (fun W W' => Below W.heap.size W W') (fun W => Below u.heap.size u W)
    [Det (.pointer (some ⟨gs, 0, none⟩)), Det (.int .i64 (s.gr : Int)), Det (.pointer (some ⟨g5, 2, none⟩)), Det (.slice At nt ct), Det (.slice (some ⟨g7, 0, none⟩) 32 32), Det (.agg (arr8 rr)), RelW u.heap.size 34 (arr8 (z8' 32)), Any]
    [[], [(0, some 26)], [], [(2, some 28)], [], [(1, some 27), (3, some 29), (4, some 30)], [], [(6, some 10), (5, some 31)]]
    [[], [0], [], [2], [], [0, 1, 2, 3, 4], [], [0, 1, 2, 3, 4, 5, 6]]
    [(0, some 26), (1, some 27), (2, some 28), (3, some 29), (4, some 30), (5, some 31), (6, some 10), (7, none)] (by kernel_rfl) (by kernel_rfl) (by kernel_rfl) (fun W W' h1 h2 => h1.trans (h2.mono h1.size)) ((Below.refl _ _).drew) ?_ ?_ ?_
  · exact (AllMono.cons Det.later (AllMono.cons Det.later (AllMono.cons Det.later (AllMono.cons Det.later (AllMono.cons Det.later (AllMono.cons Det.later (AllMono.cons RelW.later (AllMono.cons Any.later AllMono.nil))))))))
  · refine AllOb.cons ?_ (AllOb.cons ?_ (AllOb.cons ?_ (AllOb.cons ?_ (AllOb.cons ?_ (AllOb.cons ?_ (AllOb.cons ?_ (AllOb.nil)))))))
    · intro uF W hC' hU aF hF
      have hC : Below u.heap.size u W := hC'
      clear hC'
      simp only [puts] at hF
      subst hF
      go_wp2_with (fail)
      exact ⟨rfl, rfl, (Below.refl _ _), rfl⟩
    · intro uF W hC' hU aF hF
      have hC : Below u.heap.size u W := hC'
      clear hC'
      have h26 : (Det (.pointer (some ⟨gs, 0, none⟩))) (uF 0) W := hU.1
      clear hU
      simp only [puts, Act.put, List.setIfInBounds_toArray, List.set_cons_zero, List.set_cons_succ] at hF
      generalize uF 0 = x26 at h26 hF
      obtain rfl : x26 = (.pointer (some ⟨gs, 0, none⟩)) := h26
      subst hF
      go_wp2_with ((go_at_call 22; refine (greeted_c (HSE.out.below hC)).mono ?_; rintro e W1 ⟨rfl, rfl⟩))
      exact ⟨rfl, rfl, (Below.refl _ _), rfl⟩
    · intro uF W hC' hU aF hF
      have hC : Below u.heap.size u W := hC'
      clear hC'
      simp only [puts] at hF
      subst hF
      go_wp2_with (fail)
      exact ⟨rfl, rfl, (Below.refl _ _), rfl⟩
    · intro uF W hC' hU aF hF
      have hC : Below u.heap.size u W := hC'
      clear hC'
      have h28 : (Det (.pointer (some ⟨g5, 2, none⟩))) (uF 2) W := hU.1
      clear hU
      simp only [puts, Act.put, List.setIfInBounds_toArray, List.set_cons_zero, List.set_cons_succ] at hF
      generalize uF 2 = x28 at h28 hF
      obtain rfl : x28 = (.pointer (some ⟨g5, 2, none⟩)) := h28
      subst hF
      have d1 : W.cell? ⟨g5, 2, none⟩ = some (.slice At nt ct) := by rw [(HC5.out.below hC HC5.out.lt).cell]; rfl
      go_wp2_with (fail)
      exact ⟨rfl, rfl, (Below.refl _ _), rfl⟩
    · intro uF W hC' hU aF hF
      have hC : Below u.heap.size u W := hC'
      clear hC'
      simp only [puts] at hF
      subst hF
      have hto := arr_off_run (P := Try.prog) (T := 34) Try.underlying34 size1 (by omega) g7 0
      go_wp2_with (fail)
      exact ⟨rfl, rfl, (Below.refl _ _), rfl⟩
    · intro uF W hC' hU aF hF
      have hC : Below u.heap.size u W := hC'
      clear hC'
      have h27 : (Det (.int .i64 (s.gr : Int))) (uF 1) W := hU.1
      have h29 : (Det (.slice At nt ct)) (uF 3) W := hU.2.1
      have h30 : (Det (.slice (some ⟨g7, 0, none⟩) 32 32)) (uF 4) W := hU.2.2.1
      clear hU
      simp only [puts, Act.put, List.setIfInBounds_toArray, List.set_cons_zero, List.set_cons_succ] at hF
      generalize uF 1 = x27 at h27 hF
      generalize uF 3 = x29 at h29 hF
      generalize uF 4 = x30 at h30 hF
      obtain rfl : x27 = (.int .i64 (s.gr : Int)) := h27
      obtain rfl : x29 = (.slice At nt ct) := h29
      obtain rfl : x30 = (.slice (some ⟨g7, 0, none⟩) 32 32) := h30
      subst hF
      go_wp2_with ((go_at_call 17; refine (refanswer_c (s.gr : Int) ((HT.out.below hC).more hC.size) (sum_sl (HC7.out.below hC HC7.out.lt) HLL.out) (Nat.le_refl _) (by omega) (by omega)).mono ?_; rintro e W1 ⟨rfl, hb⟩; rw [← HRR.out]))
      exact ⟨rfl, rfl, hb, rfl⟩
    · intro uF W hC' hU aF hF
      have hC : Below u.heap.size u W := hC'
      clear hC'
      simp only [puts] at hF
      subst hF
      go_wp2_with (((with_reducible show wpList _ _ _ (Oper.mk (some 10) (Op.alloc _) _ _ _ _ :: _) _ _); refine wpList_alloc_agg (by rfl) 34 rfl (arr8 (z8' 32)) zero44 ?_))
      exact ⟨rfl, rfl, (below_alloc _ _), ⟨_, rfl, hC.size, Blk.new _ _ _⟩⟩
  intro uF W9 hC' hU aF hF
  have hCW9 : Below u.heap.size u W9 := hC'
  clear hC'
  have h31 : (Det (.agg (arr8 rr))) (uF 5) W9 := hU.2.2.2.2.2.1
  have h10 : (RelW u.heap.size 34 (arr8 (z8' 32))) (uF 6) W9 := hU.2.2.2.2.2.2.1
  clear hU
  simp only [List.take_succ_cons, List.take_zero, puts, Act.put, List.setIfInBounds_toArray, List.set_cons_zero, List.set_cons_succ] at hF
  generalize uF 0 = x26 at hF
  generalize uF 1 = x27 at hF
  generalize uF 2 = x28 at hF
  generalize uF 3 = x29 at hF
  generalize uF 4 = x30 at hF
  generalize uF 5 = x31 at h31 hF
  generalize uF 6 = x10 at h10 hF
  obtain rfl : x31 = (.agg (arr8 rr)) := h31
  obtain ⟨g10, rfl, z10, b10⟩ := h10
  subst hF
  simp only [List.drop_succ_cons, List.drop_zero]
  refine wpListIn_of free_wide (fun ⟨_, _, h⟩ => h) rfl ?_
  refine wpList_store8 rfl 34 (.tmp 10) (.tmp 31) rfl g10 rfl rr rfl agg44 HRL.out _ _ b10 (by rw [size_arr8, len_z8']) ?_
  intro w10 b10' q10 s10
  simp only [Act.put, List.setIfInBounds_toArray, List.set_cons_succ, List.set_cons_zero]
  refine wpList_nil ?_
  dsimp only [Exit.then]
  have hz9 := hCW9.size
  have hbu : Below u.heap.size u w10 := hCW9.grown q10 hCW9.size (fun k hk => by cases hk; exact z10)
  have hzu := hbu.size
  have HC9' := Lib.hid (HC9.out.below hbu HC9.out.lt)
  have HC8' := Lib.hid (HC8.out.below hbu HC8.out.lt)
  have f93 := HC9'.out.frozen 3
  have d93 : w10.cell? ⟨g9, 3, none⟩ = some (.slice A m c) := by rw [HC9'.out.cell]; rfl
  have hto := arr_off_run (P := Try.prog) (T := 34) Try.underlying34 size1 (by omega) g10 0
  have HWX := Lib.hid (HWU.out.trans (hbu.mono HWU.out.size))
  have hl9 := HC9.out.lt
  clear s10 q10 b10 hbu
  go_wp2_with (first
    | ((with_reducible show wpList _ _ _ (Oper.mk (some 39) (Op.load 36 (.tmp 9)) _ _ _ _ :: _) _ _); refine wpList_load_whole (by rfl) 36 (.tmp 9) rfl g9 rfl #[.int .i64 3, .int .i64 n, .int .i64 x, .slice (some ⟨g10, 0, none⟩) 32 32] aggFr rfl _ (HC9'.out.set_ 3 (.slice (some ⟨g10, 0, none⟩) 32 32)) ?_)
    | ((with_reducible show wpList _ _ _ (Oper.mk none (Op.store 36 (.tmp 8) (.tmp 39)) _ _ _ _ :: _) _ _); refine wpList_store_whole rfl 36 (.tmp 8) (.tmp 39) rfl g8 rfl [.int .i64 3, .int .i64 n, .int .i64 x, .slice (some ⟨g10, 0, none⟩) 32 32] rfl aggFr rfl _ _ (HC8'.out.far (p := ⟨g9, 3, none⟩) (by show g8 ≠ g9; omega) (.slice (some ⟨g10, 0, none⟩) 32 32)) rfl (by simp [Value.oneCell']) ?_; intro w8 k8 q8 s8))
  have hwf : Below w.heap.size w w8 := (HWX.out.setCell (p := ⟨g9, 3, none⟩) (Nat.le_of_lt (show w.heap.size < g9 by omega)) (.slice (some ⟨g10, 0, none⟩) 32 32)).grown q8 (HWX.out.setCell (p := ⟨g9, 3, none⟩) (Nat.le_of_lt (show w.heap.size < g9 by omega)) (.slice (some ⟨g10, 0, none⟩) 32 32)).size (fun k hk => by cases hk; omega)
  have bf : Blk w8 g10 34 (arr8 rr) := (b10'.far (p := ⟨g9, 3, none⟩) (by show g10 ≠ g9; omega) (.slice (some ⟨g10, 0, none⟩) 32 32)).grown q8 (by simp; omega)
  refine bodyPost_ret (results_cell_one rfl _ g8 _ #[.int .i64 3, .int .i64 n, .int .i64 x, .slice (some ⟨g10, 0, none⟩) 32 32] aggFr rfl rfl k8) rfl ⟨some ⟨g10, 0, none⟩, 32, 32, rfl, sum_sl bf HRL.out, by omega, fun h b off e => .inr (by cases e; have := HWU.out.size; omega), hwf⟩
theorem frame_c {w : World} {B0 base gs : Nat} {s : Sst} {th ou last : List UInt8} (k n x d tn init : Int) {At Ao A : Option Addr} {nt ct no co m c : Nat} {ds : List UInt8} (ow : Bool) (hse : Se w base gs init th ou s.st (s.gr : Int) s.ch s.nx) (hl : last.length = 32) (ht : SlB w w.heap.size At nt ct th) (hnt : nt ≤ 1048576) (hd : SlB w w.heap.size A m c ds) (hm : m ≤ 1048576) (hfar : 0 < m → ∀ b off, A = some ⟨b, off, none⟩ → b < B0) :
    Calls Try.prog 21 #[.agg #[.int .i64 k, .int .i64 n, .int .i64 x, .slice A m c, .int .i64 d, .bool ow], .agg #[.int .i64 tn, .int .i64 init, .slice At nt ct, .slice Ao no co], .pointer (some ⟨gs, 0, none⟩), .agg (arr8 last)] w (FrP w B0 k x (frm init th s ow k n ds last)) := by
  cases ow with
  | false => rw [frm, if_pos rfl]; exact frame_no k n x d tn init hse hl ht hnt hd hm hfar
  | true =>
    rw [frm, if_neg (by simp)]
    by_cases h1 : k = 1
    · subst h1; rw [if_pos rfl]; exact frame_1 n x d tn init hse hl ht hnt hd hm hfar
    rw [if_neg h1]
    by_cases h3 : k = 3
    · subst h3; rw [if_pos rfl]; exact frame_3 n x d tn init hse hl ht hnt hd hm hfar
    rw [if_neg h3]
    by_cases h5 : k = 5
    · subst h5; rw [if_pos rfl]; exact frame_5 n x d tn init hse hl ht hnt hd hm hfar
    rw [if_neg h5]
    exact frame_other k n x d tn init hse hl ht hnt hd hm hfar h1 h3 h5
end Go.Proofs.Ytiadfbcdopfibaa

