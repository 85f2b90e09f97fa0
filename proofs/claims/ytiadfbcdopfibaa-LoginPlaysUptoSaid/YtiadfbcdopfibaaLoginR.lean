/-
  login: the document's session (printed by wip/gen_login13.py).
-/
import Derived.Test.YtiadfbcdopfibaaLoginLaw
namespace Go.Proofs.Ytiadfbcdopfibaa
open Go.RowKit
set_option linter.unusedVariables false
set_option linter.unusedSimpArgs false
set_option maxRecDepth 100000

/-- A frame that came, and the draw. -/
structure Cv where
  k : Int
  n : Int
  x : Int
  A : Option Addr
  m : Nat
  c : Nat
  ds : List UInt8
  dr : List UInt8
def Cv.row (v : Cv) : List Value := [.int .i64 v.k, .int .i64 v.n, .int .i64 v.x, .slice v.A v.m v.c] ++ v.dr.map b8
def Cv.ok (w : World) (v : Cv) : Prop := SlB w w.heap.size v.A v.m v.c v.ds ∧ v.m ≤ 1048576 ∧ v.dr.length = 32
/-- The document's session in the world. -/
structure Md (w : World) (gm : Nat) (tn init : Int) (At : Option Addr) (nt ct : Nat) (th : List UInt8) (Ao : Option Addr) (no co : Nat) (ou : List UInt8) (A : Option Addr) (N C : Nat) (cs : List Cv) : Prop where
  blk : Blk w gm 55 #[.int .i64 tn, .int .i64 init, .slice At nt ct, .slice Ao no co, .slice A N C]
  sl : Sl w w.heap.size 36 A N C (cs.map Cv.row).flatten
  len : cs.length = N
  oks : ∀ v ∈ cs, v.ok w
  th_ : SlB w w.heap.size At nt ct th
  ou_ : SlB w w.heap.size Ao no co ou
  bt : nt ≤ 1048576
  bo : no ≤ 1048576
  bn : N ≤ 300
section
variable {w w' : World} {gm : Nat} {tn init : Int} {At : Option Addr} {nt ct : Nat} {th : List UInt8} {Ao : Option Addr} {no co : Nat} {ou : List UInt8} {A : Option Addr} {N C : Nat} {cs : List Cv}
theorem Md.below (h : Md w gm tn init At nt ct th Ao no co ou A N C cs) (hb : Below w.heap.size w w') : Md w' gm tn init At nt ct th Ao no co ou A N C cs :=
  ⟨h.blk.below hb h.blk.lt, (Sl.below h.sl hb).more hb.size, h.len, fun v hv => ⟨((h.oks v hv).1.below hb).more hb.size, (h.oks v hv).2⟩, (h.th_.below hb).more hb.size, (h.ou_.below hb).more hb.size, h.bt, h.bo, h.bn⟩
theorem Md.at_ (h : Md w gm tn init At nt ct th Ao no co ou A N C cs) {i : Nat} {v : Cv} (hi : cs[i]? = some v) :
    ∃ b off, A = some ⟨b, off, none⟩ ∧ b < w.heap.size ∧ v.ok w ∧ ∀ j u, v.row[j]? = some u → w.cell? ⟨b, off + i * 36 + j, none⟩ = some u := by
  have hlt : i < cs.length := by
    rcases Nat.lt_or_ge i cs.length with h | h
    · exact h
    · rw [List.getElem?_eq_none h] at hi; cases hi
  obtain ⟨b, off, ea, hb, hc⟩ := h.sl.2.2.2 (by have := h.sl.2.1; have := h.len; omega)
  have hrl : ∀ v ∈ cs, v.row.length = 36 := fun v hv => by simp [Cv.row, (h.oks v hv).2.2]
  refine ⟨b, off, ea, hb, h.oks v (List.mem_of_getElem? hi), fun j u hj => ?_⟩
  have hv := List.mem_of_getElem? hi
  have hj6 : j < 36 := by
    rcases Nat.lt_or_ge j 36 with h' | h'
    · exact h'
    · rw [List.getElem?_eq_none (by rw [hrl v hv]; exact h')] at hj; cases hj
  have := hc (i * 36 + j) u (by
    rw [flatten_get 36 (cs.map Cv.row) (fun r hr => by obtain ⟨o', ho, rfl⟩ := List.mem_map.1 hr; exact hrl o' ho) i j v.row (by rw [List.getElem?_map, hi]; rfl) hj6, hj])
  rwa [← Nat.add_assoc] at this
/-- Its state behind the first frames. -/
def stf (init : Int) (th ou : List UInt8) (cs : List Cv) : Sst := cs.foldl (fun s v => (hnd init th ou s v.k v.n v.ds v.dr).1) ⟨0, 0, 0, z8' 32⟩
theorem stf_take {i : Nat} {v : Cv} (hi : cs[i]? = some v) : stf init th ou (cs.take (i + 1)) = (hnd init th ou (stf init th ou (cs.take i)) v.k v.n v.ds v.dr).1 := by
  rw [stf, List.take_add_one, hi, Option.toList_some, List.foldl_append]
  rfl
end
def gts (init : Int) (k n : Int) (m : Nat) : Prop := k = 1 ∧ n = init ∧ 16 ≤ m ∧ m ≤ 64
set_option maxHeartbeats 4000000 in
theorem greets_c {w : World} {gm : Nat} {tn init : Int} {At : Option Addr} {nt ct : Nat} {th : List UInt8} {Ao : Option Addr} {no co : Nat} {ou : List UInt8} {A : Option Addr} {N C : Nat} {cs : List Cv} (h : Md w gm tn init At nt ct th Ao no co ou A N C cs) (k n x : Int) (Af : Option Addr) (m c : Nat) (r : Bool) (hr : decide (k = 1 ∧ n = init ∧ 16 ≤ m ∧ m ≤ 64) = r) :
    Calls Try.prog 36 #[.pointer (some ⟨gm, 0, none⟩), .agg #[.int .i64 k, .int .i64 n, .int .i64 x, .slice Af m c]] w fun e w' => e = .returned (.bool r) ∧ Below w.heap.size w w' := by
  obtain ⟨v, hv⟩ : ∃ v, v = w.alloc (.cells #[.int .i64 k, .int .i64 n, .int .i64 x, .slice Af m c] 36) := ⟨_, rfl⟩
  have b1 : Blk v w.heap.size 36 #[.int .i64 k, .int .i64 n, .int .i64 x, .slice Af m c] := by rw [hv]; exact Blk.new _ _ _
  have hbv : Below w.heap.size w v := by rw [hv]; exact below_alloc _ _
  have hz := hbv.size
  have hm := (h.below hbv).blk
  have e0 : v.cell? ⟨w.heap.size, 0, none⟩ = some (.int .i64 k) := by rw [b1.cell]; rfl
  have e1 : v.cell? ⟨w.heap.size, 1, none⟩ = some (.int .i64 n) := by rw [b1.cell]; rfl
  have e3 : v.cell? ⟨w.heap.size, 3, none⟩ = some (.slice Af m c) := by rw [b1.cell]; rfl
  have em : v.cell? ⟨gm, 1, none⟩ = some (.int .i64 init) := by rw [hm.cell]; rfl
  have hm0 : (0 : Int) ≤ (m : Int) := by omega
  have HV := Lib.hid hv
  have HR := Lib.hid hr
  clear hv hr b1 hm
  go_enter Try.func36, Try.ntmps36
  go_wp2_with fail
  rw [← HV.out]
  by_cases hk : k = 1
  · have hk1 : (k == 1) = true := by simp [hk]
    by_cases hn : n = init
    · have hn1 : (n == init) = true := by simp [hn]
      by_cases h16 : (16 : Int) ≤ (m : Int)
      · by_cases h64 : (m : Int) ≤ 64
        · have hx : 16 ≤ m ∧ m ≤ 64 := by omega
          go_quiet (fail)
          go_wp2_with fail
          go_ret
          exact ⟨by rw [← HR.out, decide_eq_true (⟨hk, hn, hx⟩ : k = 1 ∧ n = init ∧ 16 ≤ m ∧ m ≤ 64)]; rfl, below_drewN hbv _⟩
        · have hx : ¬ (k = 1 ∧ n = init ∧ 16 ≤ m ∧ m ≤ 64) := fun h => by omega
          go_quiet (fail)
          go_wp2_with fail
          go_ret
          exact ⟨by rw [← HR.out, decide_eq_false hx]; rfl, below_drewN hbv _⟩
      · have hx : ¬ (k = 1 ∧ n = init ∧ 16 ≤ m ∧ m ≤ 64) := fun h => by omega
        go_quiet (fail)
        go_wp2_with fail
        go_ret
        exact ⟨by rw [← HR.out, decide_eq_false hx]; rfl, below_drewN hbv _⟩
    · have hn1 : (n == init) = false := by simp [hn]
      have hx : ¬ (k = 1 ∧ n = init ∧ 16 ≤ m ∧ m ≤ 64) := fun h => hn h.2.1
      go_quiet (fail)
      go_wp2_with fail
      go_ret
      exact ⟨by rw [← HR.out, decide_eq_false hx]; rfl, below_drewN hbv _⟩
  · have hk1 : (k == 1) = false := by simp [hk]
    have hx : ¬ (k = 1 ∧ n = init ∧ 16 ≤ m ∧ m ≤ 64) := fun h => hk h.1
    go_quiet (fail)
    go_wp2_with fail
    go_ret
    exact ⟨by rw [← HR.out, decide_eq_false hx]; rfl, below_drewN hbv _⟩
theorem hnd_gr {init : Int} {th ou : List UInt8} {s : Sst} {k n : Int} {ds dr : List UInt8} : (hnd init th ou s k n ds dr).1.gr = if decide (k = 1 ∧ n = init ∧ 16 ≤ ds.length ∧ ds.length ≤ 64) = true then s.gr + 1 else s.gr := by
  unfold hnd
  by_cases h1 : k = 1
  · by_cases h2 : n = init ∧ 16 ≤ ds.length ∧ ds.length ≤ 64
    · rw [if_pos h1, if_pos h2, if_pos (decide_eq_true ⟨h1, h2⟩)]
    · rw [if_pos h1, if_neg h2, if_neg (by rw [decide_eq_false (fun h => h2 h.2)]; simp)]
  · have hd : decide (k = 1 ∧ n = init ∧ 16 ≤ ds.length ∧ ds.length ≤ 64) = false := decide_eq_false (fun h => h1 h.1)
    rw [if_neg h1]
    simp only [hd, Bool.false_eq_true, if_false]
    repeat' split
    all_goals rfl
theorem gr_le {init : Int} {th ou : List UInt8} {cs : List Cv} : ∀ i, i ≤ cs.length → (stf init th ou (cs.take i)).gr ≤ i
  | 0, _ => by simp [stf]
  | i + 1, h => by
    have := gr_le (init := init) (th := th) (ou := ou) (cs := cs) i (by omega)
    rw [stf_take (List.getElem?_eq_getElem (show i < cs.length by omega)), hnd_gr]
    split <;> omega
/-- The last one that greeted. -/
theorem last_greet {init : Int} {th ou : List UInt8} {cs : List Cv} : ∀ i, i ≤ cs.length → (stf init th ou (cs.take i)).st = 1 →
    ∃ p v, p < i ∧ cs[p]? = some v ∧ (v.k = 1 ∧ v.n = init ∧ 16 ≤ v.ds.length ∧ v.ds.length ≤ 64) ∧ (stf init th ou (cs.take i)).ch = v.dr ∧
      ∀ q u, p < q → q < i → cs[q]? = some u → ¬ (u.k = 1 ∧ u.n = init ∧ 16 ≤ u.ds.length ∧ u.ds.length ≤ 64)
  | 0, _, h => by simp [stf] at h
  | i + 1, hl, h => by
    have hi := List.getElem?_eq_getElem (show i < cs.length by omega)
    obtain ⟨v, hv⟩ : ∃ v, cs[i]? = some v := ⟨_, hi⟩
    rw [stf_take hv] at h ⊢
    obtain ⟨s1, out, hh⟩ : ∃ s1 out, hnd init th ou (stf init th ou (cs.take i)) v.k v.n v.ds v.dr = (s1, out) := ⟨_, _, rfl⟩
    have hgr := hnd_gr (init := init) (th := th) (ou := ou) (s := stf init th ou (cs.take i)) (k := v.k) (n := v.n) (ds := v.ds) (dr := v.dr)
    rw [hh] at h hgr ⊢
    simp only at h hgr ⊢
    by_cases hg : v.k = 1 ∧ v.n = init ∧ 16 ≤ v.ds.length ∧ v.ds.length ≤ 64
    · refine ⟨i, v, by omega, hv, hg, ?_, fun q u h1 h2 => by omega⟩
      rw [hg.1, hg.2.1, hnd, if_pos rfl, if_pos ⟨rfl, hg.2.2⟩] at hh
      simp only [Prod.mk.injEq] at hh
      rw [← hh.1]
    · rw [if_neg (by simpa using hg)] at hgr
      have hs : s1 = stf init th ou (cs.take i) := by
        rcases hnd_cases hh with ⟨_, e, _⟩ | ⟨_, _, _, _, ⟨_, e⟩ | ⟨_, e⟩⟩ | ⟨_, e, _⟩ | ⟨_, _, _, e, _⟩ | ⟨e, _⟩
        · rw [e] at hgr; simp at hgr
        · rw [e] at h; simp at h
        · rw [e] at h; simp at h
        · rw [e] at h; simp at h
        · rw [e] at h; simp at h
        · exact e
      rw [hs] at h ⊢
      obtain ⟨p, v', h1, h2, h3, h4, h5⟩ := last_greet i (by omega) h
      refine ⟨p, v', by omega, h2, h3, h4, fun q u hq1 hq2 hu => ?_⟩
      by_cases hqi : q = i
      · subst hqi
        rw [hv] at hu
        cases hu
        exact hg
      · exact h5 q u hq1 (by omega) hu
set_option maxHeartbeats 4000000 in
theorem greeted_r {w : World} {gm : Nat} {tn init : Int} {At : Option Addr} {nt ct : Nat} {th : List UInt8} {Ao : Option Addr} {no co : Nat} {ou : List UInt8} {A : Option Addr} {N C : Nat} {cs : List Cv} (h : Md w gm tn init At nt ct th Ao no co ou A N C cs) (i : Nat) (hi : i ≤ N) :
    Calls Try.prog 27 #[.pointer (some ⟨gm, 0, none⟩), .int .i64 (i : Int)] w fun e w' => e = .returned (.int .i64 ((stf init th ou (cs.take i)).gr : Int)) ∧ Below w.heap.size w w' := by
  have HM := Lib.hid h
  have hbn := h.bn
  have HLN := Lib.hid h.len
  have hi3 : (i : Int) ≤ 300 := by omega
  clear h
  go_enter Try.func27, Try.ntmps27
  go_wp2_with fail
  go_loopw [5, 6] (fun v5 v6 wr => ∃ j g : Nat, j ≤ i ∧ v6 = .int .i64 (j : Int) ∧ v5 = .int .i64 (g : Int) ∧ g = (stf init th ou (cs.take j)).gr ∧ g ≤ j ∧ Below w.heap.size w wr) (fun _ v6 _ => i - (intOf v6).toNat)
  case atStart => exact ⟨0, 0, by omega, rfl, rfl, rfl, by omega, Below.refl _ _⟩
  case round =>
    obtain ⟨j, g, hj, rfl, rfl, hg, hgj, hw⟩ := hrel
    have hzw := hw.size
    have hj0 : (0 : Int) ≤ (j : Int) := by omega
    have hg0 : (0 : Int) ≤ (g : Int) := by omega
    have hg3 : (g : Int) ≤ 300 := by omega
    by_cases hlt : j < i
    · have hji : (j : Int) < (i : Int) := by omega
      have hjN : (j : Int) < (N : Int) := by omega
      have hMr := HM.out.below hw
      obtain ⟨v, hv⟩ : ∃ v, cs[j]? = some v := ⟨cs[j]'(by rw [HLN.out]; omega), List.getElem?_eq_getElem _⟩
      have HTK := Lib.hid (stf_take (init := init) (th := th) (ou := ou) hv)
      have HMR := Lib.hid hMr
      obtain ⟨gb, off, rfl, hgb, hok, hcell⟩ := hMr.at_ hv
      have d4 : wr.cell? ⟨gm, 1 + 3, none⟩ = some (.slice (some ⟨gb, off, none⟩) N C) := by rw [hMr.blk.cell]; rfl
      have HC := Lib.hid (show ∀ (q : Nat) u, (#[.int .i64 v.k, .int .i64 v.n, .int .i64 v.x, .slice v.A v.m v.c] : Array Value)[q]? = some u → wr.cell? ⟨gb, off + j * 36 + q, none⟩ = some u from fun q u hq => hcell q u (by
        match q, hq with
        | 0, h => simpa [Cv.row] using h
        | 1, h => simpa [Cv.row] using h
        | 2, h => simpa [Cv.row] using h
        | 3, h => simpa [Cv.row] using h
        | q + 4, h => simp at h))
      have HW := Lib.hid hw
      have HG := Lib.hid hg
      have HL := Lib.hid hok.1.len
      clear hMr hcell hw hg hok
      have hgr := hnd_gr (init := init) (th := th) (ou := ou) (s := stf init th ou (cs.take j)) (k := v.k) (n := v.n) (ds := v.ds) (dr := v.dr)
      rw [HL.out] at hgr
      by_cases hG : v.k = 1 ∧ v.n = init ∧ 16 ≤ v.m ∧ v.m ≤ 64
      · rw [if_pos (decide_eq_true hG)] at hgr
        have HGR := Lib.hid hgr
        have HGD := Lib.hid (decide_eq_true hG)
        clear hgr hG
        go_wp2_with (first
          | ((with_reducible show wpList _ _ _ (Oper.mk (some 20) (Op.load 36 _) _ _ _ _ :: _) _ _); refine wpList_load_agg rfl 36 (.tmp 19) rfl gb (off + j * 36) rfl #[.int .i64 v.k, .int .i64 v.n, .int .i64 v.x, .slice v.A v.m v.c] aggFr rfl HC.out ?_)
          | (go_at_call 36; refine (greets_c HMR.out v.k v.n v.x v.A v.m v.c true HGD.out).mono ?_; rintro e w2 ⟨rfl, hb2⟩))
        exact ⟨⟨j + 1, g + 1, by omega, by go_num, by go_num, by rw [HTK.out, HGR.out, HG.out], by omega, HW.out.trans (hb2.mono hzw)⟩, by simp [intOf]; omega⟩
      · rw [if_neg (by rw [decide_eq_false hG]; exact Bool.false_ne_true)] at hgr
        have HGR := Lib.hid hgr
        have HGD := Lib.hid (decide_eq_false hG)
        clear hgr hG
        go_wp2_with (first
          | ((with_reducible show wpList _ _ _ (Oper.mk (some 20) (Op.load 36 _) _ _ _ _ :: _) _ _); refine wpList_load_agg rfl 36 (.tmp 19) rfl gb (off + j * 36) rfl #[.int .i64 v.k, .int .i64 v.n, .int .i64 v.x, .slice v.A v.m v.c] aggFr rfl HC.out ?_)
          | (go_at_call 36; refine (greets_c HMR.out v.k v.n v.x v.A v.m v.c false HGD.out).mono ?_; rintro e w2 ⟨rfl, hb2⟩))
        exact ⟨⟨j + 1, g, by omega, by go_num, rfl, by rw [HTK.out, HGR.out, HG.out], by omega, HW.out.trans (hb2.mono hzw)⟩, by simp [intOf]; omega⟩
    · obtain rfl : j = i := by omega
      have hil : ¬ (j : Int) < (j : Int) := by omega
      have HW := Lib.hid hw
      have HG := Lib.hid hg
      clear hw hg
      go_wp2_with fail
      go_ret
      exact ⟨by rw [← HG.out]; rfl, HW.out⟩
end Go.Proofs.Ytiadfbcdopfibaa
