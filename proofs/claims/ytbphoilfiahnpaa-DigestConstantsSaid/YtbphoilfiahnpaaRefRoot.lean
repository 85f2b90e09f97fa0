/-
  The reference's lists of digits: list, times, most.
-/
import Derived.Test.YtbphoilfiahnpaaRoot
import Derived.Test.YtbphoilfiahnpaaRefPad
namespace Go.Proofs.Ytbphoilfiahnpaa
open Go.RowKit
set_option linter.unusedVariables false
set_option linter.unusedSimpArgs false
set_option maxRecDepth 100000

def d64 (x : Nat) : Value := .int .u64 (x : Int)
theorem d64_def (x : Nat) : d64 x = .int .u64 (x : Int) := rfl
def ar64 (xs : List Nat) : Array Value := (xs.map d64).toArray
theorem ar64_get (xs : List Nat) (j : Nat) : (ar64 xs)[j]? = (xs[j]?).map d64 := by simp [ar64]
theorem ar64_at {xs : List Nat} {j : Nat} (h : j < xs.length) : (ar64 xs)[j]? = some (.int .u64 ((xs[j]?.getD 0 : Nat) : Int)) := by
  rw [ar64_get, List.getElem?_eq_getElem h]; rfl
theorem ar64_set (xs : List Nat) (j v : Nat) : (ar64 xs).setIfInBounds j (.int .u64 (v : Int)) = ar64 (xs.set j v) := by
  rw [ar64, ar64, List.setIfInBounds_toArray, ← d64_def, ← List.map_set]
theorem size_ar64 (xs : List Nat) : (ar64 xs).size = xs.length := by simp [ar64]
/-- A slice that reads as these numbers. -/
def S64 (w : World) (B : Nat) (A : Option Addr) (n c : Nat) (xs : List Nat) : Prop := Sl w B 1 A n c (xs.map d64)
theorem S64.len {w : World} {B : Nat} {A : Option Addr} {n c : Nat} {xs : List Nat} (h : S64 w B A n c xs) : xs.length = n := by have := h.1; simpa using this
theorem S64.below {w w' : World} {B : Nat} {A : Option Addr} {n c : Nat} {xs : List Nat} (h : S64 w B A n c xs) (hb : Below B w w') : S64 w' B A n c xs := Sl.below h hb
theorem S64.ofBlk {w : World} {g : Nat} {t : TypeId} {xs : List Nat} {B N : Nat} (h : Blk w g t (ar64 xs)) (hN : xs.length = N) (hm : N ≤ maxLen) (hg : g < B) : S64 w B (some ⟨g, 0, none⟩) N N xs :=
  ⟨by simp [hN], Nat.le_refl _, hm, fun _ => ⟨g, 0, rfl, hg, fun j u hu => by rw [h.cell, Nat.zero_add]; simpa [ar64] using hu⟩⟩
/-- What it reads at a place. -/
theorem S64.at {w : World} {B b off n c : Nat} {xs : List Nat} (h : S64 w B (some ⟨b, off, none⟩) n c xs) (j : Nat) (hj : j < n) : w.cell? ⟨b, off + j, none⟩ = some (.int .u64 ((xs[j]?.getD 0 : Nat) : Int)) := by
  have hl := h.len
  obtain ⟨b', off', e, _, hr⟩ := h.2.2.2 (by have := h.2.1; omega)
  cases e
  exact hr j _ (by rw [List.getElem?_map, List.getElem?_eq_getElem (by omega)]; rfl)
theorem S64.addr {w : World} {B n c : Nat} {A : Option Addr} {xs : List Nat} (h : S64 w B A n c xs) (hn : 0 < n) : ∃ b off, A = some ⟨b, off, none⟩ ∧ b < B := by
  obtain ⟨b', off', e, h2, hr⟩ := h.2.2.2 (by have := h.2.1; omega)
  exact ⟨b', off', e, h2⟩

theorem u64s_info : (Try.prog.info? 76).map (fun i => (i.zero, i.size, i.bytes)) = some (some (.int .u64 0), 1, 8) := by kernel_rfl
theorem run_make64 (c : Nat) (C : Int) (hC : C = c) (hb : c ≤ 1000000) (w : World) :
    (Instr.makeSlice 73 (.int .i64 C) (.int .i64 C)).run Try.prog w = .ok (.slice (some ⟨w.heap.size, 0, none⟩) c c) (w.alloc (.cells (ar64 (List.replicate c 0)) 76)) := by
  obtain ⟨i0, hi, hz0, hz1, hz2⟩ := info_parts u64s_info
  subst hC
  have hr := run_make_rowN (P := Try.prog) 73 76 i0 _ Try.underlying73 hi hz0 .i64 .i64 c c (Nat.le_refl _) (by rw [hz2]; omega) (by omega) w
  rw [hr, hz1]
  have e : madeCells (Value.cells (.int .u64 0)) (c * 1) = ar64 (List.replicate c 0) := ?_
  · rw [e]
  apply Array.ext_getElem?
  intro k
  simp [madeCells, ar64, Value.cells, Nat.mod_one, d64]
  by_cases h : k < c <;> simp [h]

theorem wrap_mul_add (o a b c : Nat) : IntKind.u64.wrap (IntKind.u64.wrap ((o : Int) + IntKind.u64.wrap ((a : Int) * (b : Int))) + (c : Int)) = (((o + a * b + c) % 18446744073709551616 : Nat) : Int) := by
  rw [wrap_u64, wrap_u64, wrap_u64, ← Int.natCast_mul]
  omega
/-- A number in digits. -/
theorem list_c {w : World} (x : Nat) (hx : x < 18446744073709551616) :
    Calls Try.prog 66 #[.int .u64 (x : Int)] w fun e w' => e = .returned (.slice (some ⟨w.heap.size, 0, none⟩) 3 3) ∧ Blk w' w.heap.size 76 (ar64 (listL x)) ∧ Below w.heap.size w w' := by
  have hb := (Below.refl w.heap.size w).alloc (Nat.le_refl _) (.cells (ar64 (listL x)) 76)
  have hB := Blk.new w 76 (ar64 (listL x))
  have e : ar64 (listL x) = #[.int .u64 ((x : Int) % 65536), .int .u64 ((x : Int) / 65536 % 65536), .int .u64 ((x : Int) / 4294967296 % 65536)] := by
    simp [ar64, listL, d64]
    exact ⟨Int.natCast_emod .., Int.natCast_emod .., Int.natCast_emod ..⟩
  rw [e] at hb hB ⊢
  go_enter Try.func66, Try.ntmps66
  go_wp2_with fail
  go_ret
  exact ⟨rfl, hB, hb⟩

set_option maxHeartbeats 2000000 in
theorem times_c {w : World} {B : Nat} {A A' : Option Addr} {n c n' c' : Nat} {a b : List Nat} (ha : S64 w B A n c a) (hb : S64 w B A' n' c' b) (hB : B ≤ w.heap.size) (hn0 : 0 < n) (hn0' : 0 < n') (hn : n ≤ 1000) (hn' : n' ≤ 1000) :
    Calls Try.prog 67 #[.slice A n c, .slice A' n' c'] w fun e w' => e = .returned (.slice (some ⟨w.heap.size, 0, none⟩) (n + n' + 1) (n + n' + 1)) ∧ Blk w' w.heap.size 76 (ar64 (timesL a b)) ∧ Below w.heap.size w w' := by
  obtain ⟨ba, oa, rfl, hba⟩ := ha.addr hn0
  obtain ⟨bb, ob, rfl, hbb⟩ := hb.addr hn0'
  obtain ⟨g, hg⟩ : ∃ g, g = w.heap.size := ⟨_, rfl⟩
  have hmk := run_make64 (n + n' + 1) ((n : Int) + (n' : Int) + 1) (by omega) (by omega) w
  have hla := Lib.hid ha.len
  have hlb := Lib.hid hb.len
  have HG := Lib.hid hg
  have HA := Lib.hid ha
  have HB := Lib.hid hb
  have hb0 : Below w.heap.size w (w.alloc (.cells (ar64 (List.replicate (n + n' + 1) 0)) 76)) := (Below.refl _ _).alloc (Nat.le_refl _) _
  have hB0 := Blk.new w 76 (ar64 (List.replicate (n + n' + 1) 0))
  obtain ⟨R, hR⟩ : ∃ R, R = timesL a b := ⟨_, rfl⟩
  have hR0 : timesGo a b n' 0 n (List.replicate (n + n' + 1) 0) = R := by rw [hR, timesL, hla.out, hlb.out]
  rw [← hR]
  rw [← hg] at hmk hB0 hb0 ⊢
  clear ha hb hR hg
  go_enter Try.func67, Try.ntmps67
  go_wp2_with fail
  go_loopw [6] (fun v6 wr => ∃ (i : Nat) (out : List Nat), i ≤ n ∧ v6 = .int .i64 (i : Int) ∧ out.length = n + n' + 1 ∧ timesGo a b n' i (n - i) out = R ∧ Blk wr g 76 (ar64 out) ∧ Below g w wr) (fun v6 _ => n - (intOf v6).toNat)
  case atStart => exact ⟨0, _, by omega, rfl, by simp, hR0, hB0, hb0⟩
  case round =>
    clear hR0 hB0 hb0
    obtain ⟨i, out, hi, rfl, hlo, hR, hB1, hb⟩ := hrel
    by_cases hlt : i < n
    · have hli : (i : Int) < (n : Int) := by omega
      obtain ⟨ai, hai⟩ : ∃ ai, ai = a[i]?.getD 0 := ⟨_, rfl⟩
      obtain ⟨T, hT⟩ : ∃ T, T = mulGo ai b i out 0 0 n' := ⟨_, rfl⟩
      have hR1 : timesGo a b n' (i + 1) (n - (i + 1)) T = R := by
        rw [show n - i = n - (i + 1) + 1 from by omega, timesGo_succ, ← hai, ← hT] at hR
        exact hR
      have HR1 := Lib.hid hR1
      have HAI := Lib.hid hai
      clear hR hR1
      have hT0 : mulGo ai b i out 0 0 (n' - 0) = T := hT.symm
      clear hT hai
      go_wp2_with fail
      obtain ⟨wo, rfl⟩ : ∃ wo : World, wo = wr := ⟨_, rfl⟩
      go_loopw [7, 8] (fun v7 v8 wr => ∃ (k carry : Nat) (out : List Nat), k ≤ n' ∧ v8 = .int .i64 (k : Int) ∧ v7 = .int .u64 (carry : Int) ∧ carry < 18446744073709551616 ∧ out.length = n + n' + 1 ∧ mulGo ai b i out carry k (n' - k) = T ∧ Blk wr g 76 (ar64 out) ∧ Below g w wr) (fun _ v8 _ => n' - (intOf v8).toNat)
      case atStart => exact ⟨0, 0, out, by omega, rfl, rfl, by omega, hlo, hT0, hB1, hb⟩
      case round =>
        clear hT0 hB1 hb
        obtain ⟨k, carry, out, hk, rfl, rfl, hcb, hlo, hT, hB1, hb⟩ := hrel
        by_cases hlt2 : k < n'
        · have hli2 : (k : Int) < (n' : Int) := by omega
          obtain ⟨o, ho⟩ : ∃ o, o = out[i + k]?.getD 0 := ⟨_, rfl⟩
          obtain ⟨bk, hbk⟩ : ∃ bk, bk = b[k]?.getD 0 := ⟨_, rfl⟩
          obtain ⟨v, hv⟩ : ∃ v, v = (o + ai * bk + carry) % 18446744073709551616 := ⟨_, rfl⟩
          have hBg : B ≤ g := by rw [HG.out]; exact hB
          have e5 : wr.cell? ⟨g, i + k, none⟩ = some (.int .u64 (o : Int)) := by rw [hB1.cell, ar64_at (by omega), ho]
          have f5 := hB1.frozen (i + k)
          have da : wr.cell? ⟨ba, oa + i, none⟩ = some (.int .u64 (ai : Int)) := by rw [HAI.out]; exact (HA.out.below (hb.mono hBg)).at i hlt
          have db : wr.cell? ⟨bb, ob + k, none⟩ = some (.int .u64 (bk : Int)) := by rw [hbk]; exact (HB.out.below (hb.mono hBg)).at k hlt2
          have hT1 : mulGo ai b i (out.set (i + k) (v % 65536)) (v / 65536) (k + 1) (n' - (k + 1)) = T := by
            rw [← mulGo_succ _ _ _ _ _ _ _ v (by rw [hv, ho, hbk]), ← hT, show n' - k = n' - (k + 1) + 1 from by omega]
          have hvb : v < 18446744073709551616 := by rw [hv]; exact Nat.mod_lt _ (by omega)
          have hvi : IntKind.u64.wrap (IntKind.u64.wrap ((o : Int) + IntKind.u64.wrap ((ai : Int) * (bk : Int))) + (carry : Int)) = (v : Int) := by
            rw [hv]; exact wrap_mul_add o ai bk carry
          have HT1 := Lib.hid hT1
          have HB1 := Lib.hid hB1
          have HBW := Lib.hid hb
          have HV := Lib.hid hv
          clear hT1 hT hB1 hb ho hbk hv
          go_wp2_with fail
          go_quiet (fail)
          go_wp2_with fail
          refine ⟨⟨k + 1, v / 65536, out.set (i + k) (v % 65536), by omega, by go_num, rfl, by omega, by simp [hlo], HT1.out, ?_, (below_drewN HBW.out nq).setCell (Nat.le_refl _) _⟩, by simp [intOf]; omega⟩
          have h := (show Blk (wr.drewN nq) g 76 (ar64 out) from HB1.out).set_ (i + k) (.int .u64 ((v % 65536 : Nat) : Int))
          rw [ar64_set] at h
          exact h
        · obtain rfl : k = n' := by omega
          have hli2 : ¬ (k : Int) < (k : Int) := by omega
          obtain ⟨o, ho⟩ : ∃ o, o = out[i + k]?.getD 0 := ⟨_, rfl⟩
          obtain ⟨v, hv⟩ : ∃ v, v = (o + carry) % 18446744073709551616 := ⟨_, rfl⟩
          have e5 : wr.cell? ⟨g, i + k, none⟩ = some (.int .u64 (o : Int)) := by rw [hB1.cell, ar64_at (by omega), ho]
          have f5 := hB1.frozen (i + k)
          have hT1 : out.set (i + k) v = T := by
            rw [← hT, Nat.sub_self, mulGo_zero, ← ho, ← hv]
          have hvi : IntKind.u64.wrap ((o : Int) + (carry : Int)) = (v : Int) := by
            rw [hv, wrap_u64]; omega
          have HT1 := Lib.hid hT1
          have HB1 := Lib.hid hB1
          have HBW := Lib.hid hb
          have HV := Lib.hid hv
          have hT2 : T.length = n + k + 1 := by rw [← hT1, List.length_set, hlo]
          have HT2 := Lib.hid hT2
          clear hT1 hT hB1 hb ho hv hT2
          go_wp2_with fail
          refine ⟨⟨i + 1, T, by omega, by go_num, HT2.out, HR1.out, ?_, HBW.out.setCell (Nat.le_refl _) _⟩, by simp [intOf]; omega⟩
          have h := HB1.out.set_ (i + k) (.int .u64 (v : Int))
          rw [ar64_set, HT1.out] at h
          exact h
    · obtain rfl : i = n := by omega
      have hli : ¬ (i : Int) < (i : Int) := by omega
      have hRR : out = R := by rw [← hR, Nat.sub_self]; rfl
      clear hR
      go_wp2_with fail
      go_ret
      exact ⟨rfl, hRR ▸ hB1, hb⟩

set_option maxHeartbeats 2000000 in
theorem most_c {w : World} {B : Nat} {A A' : Option Addr} {n c n' c' : Nat} {a b : List Nat} (ha : S64 w B A n c a) (hb : S64 w B A' n' c' b) (hn0 : 0 < n) (hn0' : 0 < n') (hn : n ≤ 1000) (hn' : n' ≤ 1000) :
    Calls Try.prog 68 #[.slice A n c, .slice A' n' c'] w fun e w' => e = .returned (.bool (mostL a b (n + n' + 1))) ∧ w = w' := by
  obtain ⟨ba, oa, rfl, hba⟩ := ha.addr hn0
  obtain ⟨bb, ob, rfl, hbb⟩ := hb.addr hn0'
  have hla := Lib.hid ha.len
  have hlb := Lib.hid hb.len
  have HA := Lib.hid ha
  have HB := Lib.hid hb
  obtain ⟨R, hR⟩ : ∃ R, R = mostL a b (n + n' + 1) := ⟨_, rfl⟩
  rw [← hR]
  have HR := Lib.hid hR
  clear ha hb hR
  go_enter Try.func68, Try.ntmps68
  go_wp2_with fail
  go_loopw [5] (fun v5 wr => ∃ (j : Nat), j ≤ n + n' + 1 ∧ v5 = .int .i64 ((j : Int) - 1) ∧ mostL a b j = R ∧ wr = w) (fun v5 _ => (intOf v5 + 1).toNat)
  case atStart => exact ⟨n + n' + 1, by omega, by go_num, HR.out.symm, rfl⟩
  case round =>
    obtain ⟨j, hj, rfl, hR, rfl⟩ := hrel
    cases j with
    | zero =>
      have hRR : R = true := hR.symm
      have hz : ((0 : Nat) : Int) - 1 = -1 := rfl
      rw [hz]
      go_wp2_with fail
      go_ret
      exact ⟨by rw [hRR]; rfl, rfl⟩
    | succ i =>
      have hi1 : ((i + 1 : Nat) : Int) - 1 = (i : Int) := by omega
      have hi0 : (0 : Int) ≤ (i : Int) := by omega
      have hib : (i : Int) ≤ 2000 := by omega
      rw [hi1]
      rw [mostL_succ] at hR
      obtain ⟨x, hx⟩ : ∃ x, x = a[i]?.getD 0 := ⟨_, rfl⟩
      obtain ⟨y, hy⟩ : ∃ y, y = b[i]?.getD 0 := ⟨_, rfl⟩
      rw [← hx, ← hy] at hR
      have HR1 := Lib.hid hR
      have HX := Lib.hid hx
      have HY := Lib.hid hy
      clear hR hx hy
      by_cases hin : i < n <;> by_cases him : i < n'
      · have h1 : (i : Int) < (n : Int) := by omega
        have h2 : (i : Int) < (n' : Int) := by omega
        have da : ‹World›.cell? ⟨ba, oa + i, none⟩ = some (.int .u64 (x : Int)) := by rw [HX.out]; exact HA.out.at i hin
        have db : ‹World›.cell? ⟨bb, ob + i, none⟩ = some (.int .u64 (y : Int)) := by rw [HY.out]; exact HB.out.at i him
        by_cases hxy : x = y
        · have hR2 := HR1.out
          rw [if_pos hxy] at hR2
          have HR2 := Lib.hid hR2
          subst hxy; clear hR2
          go_wp2_with fail
          exact ⟨⟨i, by omega, rfl, HR2.out, trivial⟩, by simp [intOf]⟩
        · have hR2 := HR1.out
          rw [if_neg hxy] at hR2
          have HR2 := Lib.hid hR2
          have hne : ((x : Int) != (y : Int)) = true := bne_iff_ne.2 (by omega)
          clear hR2
          go_wp2_with fail
          go_ret
          exact ⟨by rw [← HR2.out]; simp [], rfl⟩
      · have h1 : (i : Int) < (n : Int) := by omega
        have h2 : ¬ (i : Int) < (n' : Int) := by omega
        have da : ‹World›.cell? ⟨ba, oa + i, none⟩ = some (.int .u64 (x : Int)) := by rw [HX.out]; exact HA.out.at i hin
        have hy0 : y = 0 := by rw [HY.out, List.getElem?_eq_none (by rw [hlb.out]; omega)]; rfl
        by_cases hxy : x = y
        · have hR2 := HR1.out
          rw [if_pos hxy] at hR2
          have HR2 := Lib.hid hR2
          have e0 : x = 0 := hxy.trans hy0; clear hR2 hxy hy0; subst e0
          go_wp2_with fail
          exact ⟨⟨i, by omega, rfl, HR2.out, trivial⟩, by simp [intOf]⟩
        · have hR2 := HR1.out
          rw [if_neg hxy] at hR2
          have HR2 := Lib.hid hR2
          have hne : ((x : Int) != (0 : Int)) = true := bne_iff_ne.2 (by omega)
          clear hR2
          go_wp2_with fail
          go_ret
          exact ⟨by rw [← HR2.out]; simp [hy0], rfl⟩
      · have h1 : ¬ (i : Int) < (n : Int) := by omega
        have h2 : (i : Int) < (n' : Int) := by omega
        have db : ‹World›.cell? ⟨bb, ob + i, none⟩ = some (.int .u64 (y : Int)) := by rw [HY.out]; exact HB.out.at i him
        have hx0 : x = 0 := by rw [HX.out, List.getElem?_eq_none (by rw [hla.out]; omega)]; rfl
        by_cases hxy : x = y
        · have hR2 := HR1.out
          rw [if_pos hxy] at hR2
          have HR2 := Lib.hid hR2
          have e0 : y = 0 := hxy.symm.trans hx0; clear hR2 hxy hx0; subst e0
          go_wp2_with fail
          exact ⟨⟨i, by omega, rfl, HR2.out, trivial⟩, by simp [intOf]⟩
        · have hR2 := HR1.out
          rw [if_neg hxy] at hR2
          have HR2 := Lib.hid hR2
          have hne : ((0 : Int) != (y : Int)) = true := bne_iff_ne.2 (by omega)
          clear hR2
          go_wp2_with fail
          go_ret
          exact ⟨by rw [← HR2.out]; simp [hx0], rfl⟩
      · have h1 : ¬ (i : Int) < (n : Int) := by omega
        have h2 : ¬ (i : Int) < (n' : Int) := by omega
        have hx0 : x = 0 := by rw [HX.out, List.getElem?_eq_none (by rw [hla.out]; omega)]; rfl
        have hy0 : y = 0 := by rw [HY.out, List.getElem?_eq_none (by rw [hlb.out]; omega)]; rfl
        have HXX := Lib.hid hx0
        have HYY := Lib.hid hy0
        clear hx0 hy0
        go_wp2_with fail
        exact ⟨⟨i, by omega, rfl, by have := HR1.out; rwa [if_pos (HXX.out.trans HYY.out.symm)] at this, trivial⟩, by simp [intOf]⟩
end Go.Proofs.Ytbphoilfiahnpaa
