/-
  The reference's Rows (XRefRows on fewer texts).
-/
import Derived.Test.YtkiiobfomnggcaaFirst
import Derived.Test.YtkiiobfomnggcaaApartA
namespace Go.Proofs.Ytkiiobfomnggcaa
open Go.RowKit
set_option linter.unusedVariables false
set_option maxRecDepth 100000

/-- Lists that read as rows. -/
def Reads (w : World) (B : Nat) (ls : List Lst) (rows : List (List UInt8)) : Prop := ls.length = rows.length ∧ ∀ (i : Nat) (l : Lst) (r : List UInt8), ls[i]? = some l → rows[i]? = some r → SlB w B l.A l.n l.c r
theorem Reads.nil (w : World) (B : Nat) : Reads w B [] [] := ⟨rfl, by simp⟩
theorem Reads.snoc {w : World} {B : Nat} {ls : List Lst} {rows : List (List UInt8)} (h : Reads w B ls rows) {l : Lst} {r : List UInt8} (hl : SlB w B l.A l.n l.c r) : Reads w B (ls ++ [l]) (rows ++ [r]) := by
  refine ⟨by simp [h.1], fun i l' r' h1 h2 => ?_⟩
  have hlen := h.1
  rw [List.getElem?_append] at h1 h2
  by_cases hi : i < ls.length
  · rw [if_pos hi] at h1
    rw [if_pos (by omega)] at h2
    exact h.2 i l' r' h1 h2
  · rw [if_neg hi] at h1
    rw [if_neg (by omega)] at h2
    have hz : i - ls.length = 0 := by have := (List.getElem?_eq_some_iff.1 h1).1; simp at this; omega
    have hz2 : i - rows.length = 0 := by omega
    rw [hz] at h1
    rw [hz2] at h2
    simp at h1 h2
    subst h1 h2
    exact hl
theorem Reads.below {w w' : World} {B : Nat} {ls : List Lst} {rows : List (List UInt8)} (h : Reads w B ls rows) (hb : Below B w w') : Reads w' B ls rows := ⟨h.1, fun i l r h1 h2 => (h.2 i l r h1 h2).below hb⟩
/-- How many bytes rows take. -/
def eaten (rows : List (List UInt8)) : Nat := (rows.map (fun r => 2 + r.length)).sum
theorem eaten_snoc (rows : List (List UInt8)) (r : List UInt8) : eaten (rows ++ [r]) = eaten rows + 2 + r.length := by simp [eaten]; omega

set_option maxHeartbeats 1000000 in
theorem refrows_c {w : World} {B : Nat} {A : Option Addr} {n c : Nat} {bs : List UInt8} (ha : SlB w B A n c bs) (hB : B ≤ w.heap.size) (hn : n ≤ 1099511627776) :
    Calls Try.prog 12 #[.slice A n c] w fun e w' => ∃ A3 c3 ls, e = .returned (.tuple #[.slice A3 (rowsOf bs).length c3, .int .i64 (eaten (rowsOf bs) : Int)]) ∧
      Row w' w.heap.size 22 1 A3 (rowsOf bs).length c3 (ls.map Lst.val) ∧ Reads w' B ls (rowsOf bs) ∧ Below w.heap.size w w' := by
  have hnc := ha.le
  have hcm : c ≤ 9223372036854775807 := ha.cap
  have HLEN := Lib.hid ha.len
  have HA := Lib.hid ha
  obtain ⟨i0, hI, hz0, hz1, hz2⟩ := info_parts slice_info
  clear ha
  go_enter Try.func12, Try.ntmps12
  go_wp2_with fail
  go_loopw [4, 5] (fun v4 v5 wr => ∃ (i k : Nat) (done : List (List UInt8)) (ls : List Lst) (Ao : Option Addr) (co : Nat), i ≤ n ∧ v5 = .int .i64 i ∧ v4 = .slice Ao k co ∧ done ++ rowsOf (bs.drop i) = rowsOf bs ∧ done.length = k ∧ k ≤ i ∧
      eaten done = i ∧ Row wr w.heap.size 22 1 Ao k co (ls.map Lst.val) ∧ Reads w B ls done ∧ Below w.heap.size w wr) (fun _ v _ => n - (intOf v).toNat)
  case atStart => exact ⟨0, 0, [], [], none, 0, by omega, rfl, rfl, rfl, rfl, by omega, rfl, Row.nil _ _ _ _ _, Reads.nil _ _, Below.refl _ _⟩
  case round =>
    obtain ⟨i, k, done, ls, Ao, co, hi, rfl, rfl, hdone, hdk, hki, heat, hrow, hreads, hbel⟩ := hrel
    have hszb := hbel.size
    have HDONE := Lib.hid hdone
    have HDK := Lib.hid hdk
    have HEAT := Lib.hid heat
    have HROW := Lib.hid hrow
    have HREADS := Lib.hid hreads
    have HBEL := Lib.hid hbel
    clear hdone hdk heat hrow hreads hbel
    have fin : rowLen (bs.drop i) = none → ∃ A3 c3 ls', Ending.returned (.tuple #[.slice Ao k co, .int .i64 (i : Int)]) = .returned (.tuple #[.slice A3 (rowsOf bs).length c3, .int .i64 (eaten (rowsOf bs) : Int)]) ∧
        Row wr w.heap.size 22 1 A3 (rowsOf bs).length c3 (ls'.map Lst.val) ∧ Reads wr B ls' (rowsOf bs) ∧ Below w.heap.size w wr := by
      intro h
      have h1 := HDONE.out
      rw [rowsOf_none h, List.append_nil] at h1
      subst h1
      have h2 := HDK.out
      have h3 := HEAT.out
      subst h2
      refine ⟨Ao, co, ls, by rw [h3], HROW.out, HREADS.out.below (HBEL.out.mono hB), HBEL.out⟩
    have FIN := Lib.hid fin
    clear fin
    by_cases h2 : n - i < 2
    · have hlt : (n : Int) - (i : Int) < 2 := by omega
      have hnone : rowLen (bs.drop i) = none := by
        cases h : rowLen (bs.drop i) with
        | none => rfl
        | some m => have := (rowLen_some h).1; have := HLEN.out; simp at *; omega
      have HN := Lib.hid hnone
      clear h2 hnone
      go_wp2_with fail
      go_ret2
      exact FIN.out HN.out
    have hge : 2 ≤ (n : Int) - (i : Int) := by omega
    obtain ⟨b, off, rfl, hbB, hj⟩ := HA.out.at_ (by omega)
    obtain ⟨x, hx⟩ : ∃ x, bs[i]? = some x := ⟨bs[i]'(by have := HLEN.out; omega), List.getElem?_eq_getElem _⟩
    obtain ⟨y, hy⟩ : ∃ y, bs[i + 1]? = some y := ⟨bs[i + 1]'(by have := HLEN.out; omega), List.getElem?_eq_getElem _⟩
    have hc0 : wr.cell? ⟨b, off + i, none⟩ = some (.int .u8 (x.toNat : Int)) := (HBEL.out.cell (by simp only; omega)).trans (hj i x hx)
    have hc1 : wr.cell? ⟨b, off + (i + 1), none⟩ = some (.int .u8 (y.toNat : Int)) := (HBEL.out.cell (by simp only; omega)).trans (hj (i + 1) y hy)
    have hx1 : (x.toNat : Int) < 256 := by have := UInt8.toNat_lt x; omega
    have hy1 : (y.toNat : Int) < 256 := by have := UInt8.toNat_lt y; omega
    have hx0 : (0 : Int) ≤ (x.toNat : Int) := by omega
    have hy0 : (0 : Int) ≤ (y.toNat : Int) := by omega
    have HX := Lib.hid (show (bs.drop i)[0]? = some x by simpa using hx)
    have HY := Lib.hid (show (bs.drop i)[1]? = some y by simpa using hy)
    clear hx hy hj h2
    by_cases hfit : n - i < 2 + (x.toNat * 256 + y.toNat)
    · have hlt : (n : Int) - (i : Int) < 2 + ((x.toNat : Int) * 256 + (y.toNat : Int)) := by omega
      have hnone : rowLen (bs.drop i) = none := by
        cases h : rowLen (bs.drop i) with
        | none => rfl
        | some m =>
          obtain ⟨h1, a, b', ea, eb, hm⟩ := rowLen_some h
          rw [HX.out] at ea; rw [HY.out] at eb
          obtain rfl := Option.some.inj ea
          obtain rfl := Option.some.inj eb
          have := HLEN.out
          simp only [List.length_drop] at h1
          omega
      have HN := Lib.hid hnone
      clear hfit hnone
      go_wp2_with fail
      go_quiet (fail)
      go_wp2_with fail
      go_ret2
      obtain ⟨A3, c3, ls', e, h1, h2, h3⟩ := FIN.out HN.out
      exact ⟨A3, c3, ls', e, h1, h2, below_drewN h3 _⟩
    · have hle : 2 + ((x.toNat : Int) * 256 + (y.toNat : Int)) ≤ (n : Int) - (i : Int) := by omega
      obtain ⟨M, hM⟩ : ∃ M, M = x.toNat * 256 + y.toNat := ⟨_, rfl⟩
      have hsome : rowLen (bs.drop i) = some M := by
        cases h : rowLen (bs.drop i) with
        | none =>
          obtain ⟨a, b', ea, eb, hm⟩ := rowLen_none h (by have := HLEN.out; simp only [List.length_drop]; omega)
          rw [HX.out] at ea; rw [HY.out] at eb
          obtain rfl := Option.some.inj ea
          obtain rfl := Option.some.inj eb
          have := HLEN.out
          simp only [List.length_drop] at hm
          omega
        | some m =>
          obtain ⟨h1, a, b', ea, eb, hm⟩ := rowLen_some h
          rw [HX.out] at ea; rw [HY.out] at eb
          obtain rfl := Option.some.inj ea
          obtain rfl := Option.some.inj eb
          rw [hM, hm]
      obtain ⟨AR, hAR, hslR⟩ := HA.out.cutRun (lo := i + 2) (hi := i + 2 + M) (by omega) (by omega) ((i : Int) + 2) ((i : Int) + 2 + ((x.toNat : Int) * 256 + (y.toNat : Int))) (by omega) (by omega)
      obtain ⟨cR, hcR⟩ : ∃ cR, cR = c - (i + 2) := ⟨_, rfl⟩
      have e0 : i + 2 + M - (i + 2) = M := by omega
      rw [e0, ← hcR] at hAR hslR
      have HAR := Lib.hid hAR
      have HS := Lib.hid hsome
      have HMM := Lib.hid hM
      have HCR := Lib.hid hcR
      have hMI := Lib.hid (show (M : Int) = (x.toNat : Int) * 256 + (y.toNat : Int) by omega)
      have hkb : k ≤ 1099511627776 := by omega
      clear hfit hsome hM hcR hAR e0
      go_wp2_with fail
      go_quiet (fail)
      go_wp2_with (at_builtin; refine wpList_append_row rfl (.tmp 36) (.tmp 45) _ rfl Try.underlying30 hI hz0 hz1 hz2 rfl rfl (HROW.out.alloc (.cells #[.slice AR M cR] 22)) rfl (Sl.new1 _ _ (.slice AR M cR)) (one_slice _ _ _) (by omega) (by simp only [maxLen]; omega) (Nat.le_trans hszb (by simp)) ?_; intro A9 c9 w9 h9 q9)
      go_roundw
      case rel =>
        refine ⟨i + 2 + M, k + 1, done ++ [((bs.drop i).drop 2).take M], ls ++ [⟨AR, M, cR⟩], A9, c9, by have := hMI.out; omega, by have := hMI.out; go_num, rfl, ?_, by simp [HDK.out], by omega, ?_, by rw [List.map_append]; exact h9, ?_, ?_⟩
        · rw [← HDONE.out, rowsOf_some HS.out]
          simp [List.drop_drop, Nat.add_assoc]
        · rw [eaten_snoc, HEAT.out]
          have := HLEN.out
          have := hMI.out
          simp only [List.length_take, List.length_drop]
          omega
        · refine HREADS.out.snoc (r := ((bs.drop i).drop 2).take M) ?_
          rw [List.drop_drop]
          exact HAR.out
        · exact q9.below (HROW.out.alloc _) ((below_drewN HBEL.out _).alloc hszb _) (Nat.le_refl _) (Nat.le_trans hszb (by simp))
      case measure => simp only [intOf]; omega
end Go.Proofs.Ytkiiobfomnggcaa
