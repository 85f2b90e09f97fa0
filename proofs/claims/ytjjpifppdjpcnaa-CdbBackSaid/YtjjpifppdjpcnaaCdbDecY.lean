/-
  Which command any bytes are: the law of both Decodes in one form.
-/
import Derived.Test.YtjjpifppdjpcnaaCdbDecF
import Derived.Test.YtjjpifppdjpcnaaCdbRefDecS
namespace Go.Proofs.Ytjjpifppdjpcnaa
open Go.RowKit
set_option linter.unusedVariables false
set_option linter.unusedSimpArgs false
set_option maxRecDepth 100000

def hdc (bs : List UInt8) : Nat := if nm bs 0 1 = 6 then 25 else 6
def rOp (bs : List UInt8) : Int := if nm bs 0 1 = 6 then nm bs 6 1 else 0
def rKey (bs : List UInt8) : Int := if nm bs 0 1 = 6 then nm bs 7 8 else 0
def rNew (bs : List UInt8) : Int := if nm bs 0 1 = 6 then nm bs 15 8 else 0
def rTy (bs : List UInt8) : Int := if nm bs 0 1 = 6 then nm bs 23 1 else 0
def rSt (bs : List UInt8) : Bool := if nm bs 0 1 = 6 then nm bs 24 1 == 1 else false
def datc (bs : List UInt8) : List UInt8 := bs.drop (hdc bs)
/-- These bytes are a command's. -/
def cdecOk (bs : List UInt8) : Prop :=
  6 ≤ bs.length ∧ (nm bs 0 1 = 6 → bs.length = 25 ∧ (nm bs 24 1 = 0 ∨ nm bs 24 1 = 1)) ∧
    goodC (nm bs 0 1) (nm bs 1 1) (nm bs 2 2) (nm bs 4 2) (datc bs).length (rOp bs) 0 (rKey bs) (rNew bs) (rTy bs) (rSt bs)

theorem cmB_six (unit block many op key new ty : Int) (st : Bool) (ds : List UInt8) : cmB 6 unit block many op key new ty st ds = fbytes (fl4 6 unit block many ++ fl5 op key new ty st) ++ ds := by
  rw [cmB, cmF, if_pos rfl]
theorem cmB_not {kind : Int} (h : kind ≠ 6) (unit block many op key new ty : Int) (st : Bool) (ds : List UInt8) : cmB kind unit block many op key new ty st ds = fbytes (fl4 kind unit block many) ++ ds := by
  rw [cmB, cmF, if_neg h]
theorem stI_one {x : Int} (h : x = 0 ∨ x = 1) : x = stI (x == 1) := by rcases h with rfl | rfl <;> rfl
theorem stI_two {x : Int} (h : x = stI (x == 1)) : x = 0 ∨ x = 1 := by
  unfold stI at h
  split at h <;> omega

/-- The bytes of a kind other than a reservation, behind four numbers. -/
theorem cm_four {bs : List UInt8} (h : 6 ≤ bs.length) (h6 : nm bs 0 1 ≠ 6) (op key new ty : Int) (st : Bool) : cmB (nm bs 0 1) (nm bs 1 1) (nm bs 2 2) (nm bs 4 2) op key new ty st (bs.drop 6) = bs := by
  rw [cmB_not h6, split4 h]
theorem cm_nine {bs : List UInt8} (h : bs.length = 25) (h6 : nm bs 0 1 = 6) : cmB 6 (nm bs 1 1) (nm bs 2 2) (nm bs 4 2) (nm bs 6 1) (nm bs 7 8) (nm bs 15 8) (nm bs 23 1) (nm bs 24 1 == 1) [] = bs ↔ nm bs 24 1 = 0 ∨ nm bs 24 1 = 1 := by
  rw [cmB_six, List.append_nil]
  have e := split9 h (nm bs 24 1 == 1)
  rw [h6] at e
  rw [e, last9 h]
  exact ⟨stI_two, stI_one⟩

section
variable {w : World} {B : Nat} {A : Option Addr} {n c : Nat} {bs : List UInt8}
theorem datc_six (h6 : nm bs 0 1 = 6) : datc bs = bs.drop 25 := by rw [datc, hdc, if_pos h6]
theorem datc_not (h6 : nm bs 0 1 ≠ 6) : datc bs = bs.drop 6 := by rw [datc, hdc, if_neg h6]

theorem good_six (hl : 6 ≤ bs.length) (h6 : nm bs 0 1 = 6) (h : cdecOk bs) : bs.length = 25 ∧ (nm bs 24 1 = 0 ∨ nm bs 24 1 = 1) ∧ goodC 6 (nm bs 1 1) (nm bs 2 2) (nm bs 4 2) 0 (nm bs 6 1) 0 (nm bs 7 8) (nm bs 15 8) (nm bs 23 1) (nm bs 24 1 == 1) := by
  obtain ⟨_, h9, hg⟩ := h
  obtain ⟨h25, hst⟩ := h9 h6
  refine ⟨h25, hst, ?_⟩
  have e : (datc bs).length = 0 := by rw [datc_six h6, List.length_drop]; omega
  rw [e, rOp, rKey, rNew, rTy, rSt, if_pos h6, if_pos h6, if_pos h6, if_pos h6, if_pos h6, h6] at hg
  exact hg
theorem good_not (h6 : nm bs 0 1 ≠ 6) (h : cdecOk bs) : goodC (nm bs 0 1) (nm bs 1 1) (nm bs 2 2) (nm bs 4 2) (bs.length - 6) 0 0 0 0 0 false := by
  obtain ⟨_, _, hg⟩ := h
  have e : (datc bs).length = bs.length - 6 := by rw [datc_not h6, List.length_drop]
  rw [e, rOp, rKey, rNew, rTy, rSt, if_neg h6, if_neg h6, if_neg h6, if_neg h6, if_neg h6] at hg
  exact hg
theorem ok_six (h25 : bs.length = 25) (h6 : nm bs 0 1 = 6) (hst : nm bs 24 1 = 0 ∨ nm bs 24 1 = 1) (hg : goodC 6 (nm bs 1 1) (nm bs 2 2) (nm bs 4 2) 0 (nm bs 6 1) 0 (nm bs 7 8) (nm bs 15 8) (nm bs 23 1) (nm bs 24 1 == 1)) : cdecOk bs := by
  refine ⟨by omega, fun _ => ⟨h25, hst⟩, ?_⟩
  have e : (datc bs).length = 0 := by rw [datc_six h6, List.length_drop]; omega
  rw [e, rOp, rKey, rNew, rTy, rSt, if_pos h6, if_pos h6, if_pos h6, if_pos h6, if_pos h6, h6]
  exact hg
theorem ok_not (hl : 6 ≤ bs.length) (h6 : nm bs 0 1 ≠ 6) (hg : goodC (nm bs 0 1) (nm bs 1 1) (nm bs 2 2) (nm bs 4 2) (bs.length - 6) 0 0 0 0 0 false) : cdecOk bs := by
  refine ⟨hl, fun e => absurd e h6, ?_⟩
  have e : (datc bs).length = bs.length - 6 := by rw [datc_not h6, List.length_drop]
  rw [e, rOp, rKey, rNew, rTy, rSt, if_neg h6, if_neg h6, if_neg h6, if_neg h6, if_neg h6]
  exact hg
/-- A command's bytes are its command's bytes. -/
theorem cm_dec (h : cdecOk bs) : cmB (nm bs 0 1) (nm bs 1 1) (nm bs 2 2) (nm bs 4 2) (rOp bs) (rKey bs) (rNew bs) (rTy bs) (rSt bs) (datc bs) = bs := by
  by_cases h6 : nm bs 0 1 = 6
  · obtain ⟨h25, hst, _⟩ := good_six h.1 h6 h
    rw [rOp, rKey, rNew, rTy, rSt, if_pos h6, if_pos h6, if_pos h6, if_pos h6, if_pos h6, datc_six h6, h6, List.drop_of_length_le (by omega)]
    exact (cm_nine h25 h6).2 hst
  · rw [datc_not h6]
    exact cm_four h.1 h6 _ _ _ _ _

theorem cdec_yes (hb : SlB w B A n c bs) (hB : B ≤ w.heap.size) (hn : n ≤ 140737488280000) (h : cdecOk bs) :
    Calls Try.prog 35 #[.slice A n c] w fun e w' => ∃ A' m' c', e = .returned (.tuple #[.agg #[.int .i64 (nm bs 0 1), .int .i64 (nm bs 1 1), .int .i64 (nm bs 2 2), .int .i64 (nm bs 4 2), .slice A' m' c', .int .i64 (rOp bs), .int .i64 0, .int .i64 (rKey bs), .int .i64 (rNew bs), .int .i64 (rTy bs), .bool (rSt bs)], .nilIface]) ∧ OwB w' w.heap.size A' m' c' (datc bs) ∧ Below w.heap.size w w' := by
  have hl := hb.len
  by_cases h6 : nm bs 0 1 = 6
  · obtain ⟨h25, hst, hg⟩ := good_six h.1 h6 h
    have e := (cm_nine h25 h6).2 hst
    have hd : bs.drop 25 = [] := List.drop_of_length_le (by omega)
    have hn0 : n - 25 = 0 := by omega
    refine (cdec9_yes hb hB hn h6 (by omega) (by rw [hn0]; exact hg) (by rw [hd, e]; exact beq_self_eq_true bs)).mono ?_
    rintro e w' ⟨A', c', rfl, ho, hw⟩
    rw [rOp, rKey, rNew, rTy, rSt, if_pos h6, if_pos h6, if_pos h6, if_pos h6, if_pos h6, datc_six h6, h6]
    exact ⟨A', _, c', rfl, ho, hw⟩
  · have hg := good_not h6 h
    rw [hl] at hg
    refine (cdec4_yes hb hB hn h6 (by have := h.1; omega) hg (by rw [cm_four h.1 h6]; exact beq_self_eq_true bs)).mono ?_
    rintro e w' ⟨A', c', rfl, ho, hw⟩
    rw [rOp, rKey, rNew, rTy, rSt, if_neg h6, if_neg h6, if_neg h6, if_neg h6, if_neg h6, datc_not h6]
    exact ⟨A', _, c', rfl, ho, hw⟩
theorem cdec_no (hb : SlB w B A n c bs) (hB : B ≤ w.heap.size) (hn : n ≤ 140737488280000) (h : ¬ cdecOk bs) :
    Calls Try.prog 35 #[.slice A n c] w fun e w' => e = .returned (.tuple #[.agg #[.int .i64 0, .int .i64 0, .int .i64 0, .int .i64 0, .slice none 0 0, .int .i64 0, .int .i64 0, .int .i64 0, .int .i64 0, .int .i64 0, .bool false], .iface 35 (.int .i64 11)]) ∧ Below w.heap.size w w' := by
  have hl := hb.len
  by_cases h1 : n < 6
  · exact cdec_short hb hB h1
  by_cases h6 : nm bs 0 1 = 6
  · by_cases h2 : n < 25
    · exact cdec_six_short hb hB hn h6 (by omega) h2
    by_cases hg : goodC 6 (nm bs 1 1) (nm bs 2 2) (nm bs 4 2) (n - 25) (nm bs 6 1) 0 (nm bs 7 8) (nm bs 15 8) (nm bs 23 1) (nm bs 24 1 == 1)
    · have hz : n - 25 = 0 := hg.2.2.2.2.2.2.2.2.2.1 (by decide)
      refine cdec9_off hb hB hn h6 (by omega) hg (beq_eq_false_iff_ne.2 fun e => h ?_)
      rw [List.drop_of_length_le (by omega)] at e
      rw [hz] at hg
      exact ok_six (by omega) h6 ((cm_nine (by omega) h6).1 e) hg
    · exact cdec9_bad hb hB hn h6 (by omega) hg
  · refine cdec4_bad hb hB hn h6 (by omega) fun hg => h (ok_not (by omega) h6 ?_)
    rw [hl]; exact hg
theorem crefdec_yes (hb : SlB w B A n c bs) (hB : B ≤ w.heap.size) (hn : n ≤ 1048576) (h : cdecOk bs) :
    Calls Try.prog 37 #[.slice A n c] w fun e w' => ∃ A' m' c', e = .returned (.tuple #[.agg #[.int .i64 (nm bs 0 1), .int .i64 (nm bs 1 1), .int .i64 (nm bs 2 2), .int .i64 (nm bs 4 2), .slice A' m' c', .int .i64 (rOp bs), .int .i64 0, .int .i64 (rKey bs), .int .i64 (rNew bs), .int .i64 (rTy bs), .bool (rSt bs)], .bool true]) ∧ OwB w' w.heap.size A' m' c' (datc bs) ∧ Below w.heap.size w w' := by
  have hl := hb.len
  have h6l := h.1
  by_cases h6 : nm bs 0 1 = 6
  · obtain ⟨h25, hst, hg⟩ := good_six h.1 h6 h
    have e := (cm_nine h25 h6).2 hst
    refine (crefdec_six_yes hb hB hn h6 (by omega) hg (by rw [e]; exact beq_self_eq_true bs) (List.drop_of_length_le (by omega))).mono ?_
    rintro e w' ⟨A', m', c', rfl, ho, hw⟩
    rw [rOp, rKey, rNew, rTy, rSt, if_pos h6, if_pos h6, if_pos h6, if_pos h6, if_pos h6, datc_six h6, h6]
    exact ⟨A', _, c', rfl, ho, hw⟩
  · have hg := good_not h6 h
    rw [hl] at hg
    have e4 := cm_four h.1 h6 0 0 0 0 false
    by_cases h2 : nm bs 0 1 = 2
    · rw [h2] at hg e4
      refine (crefdec_two_yes hb hB hn (by omega) h2 hg (by rw [e4]; exact beq_self_eq_true bs)).mono ?_
      rintro e w' ⟨A', m', c', rfl, ho, hw⟩
      rw [rOp, rKey, rNew, rTy, rSt, if_neg h6, if_neg h6, if_neg h6, if_neg h6, if_neg h6, datc_not h6, h2]
      exact ⟨A', _, c', rfl, ho, hw⟩
    · have hz : n - 6 = 0 := hg.2.2.2.2.2.2.2.2.2.1 h2
      have hd : bs.drop 6 = [] := List.drop_of_length_le (by omega)
      rw [hd] at e4
      rw [hz] at hg
      refine (crefdec_other_yes hb hB hn (by omega) h2 h6 hg (by rw [e4]; exact beq_self_eq_true bs) hd).mono ?_
      rintro e w' ⟨A', m', c', rfl, ho, hw⟩
      rw [rOp, rKey, rNew, rTy, rSt, if_neg h6, if_neg h6, if_neg h6, if_neg h6, if_neg h6, datc_not h6]
      exact ⟨A', _, c', rfl, ho, hw⟩
theorem crefdec_no (hb : SlB w B A n c bs) (hB : B ≤ w.heap.size) (hn : n ≤ 1048576) (h : ¬ cdecOk bs) :
    Calls Try.prog 37 #[.slice A n c] w fun e w' => e = .returned (.tuple #[.agg #[.int .i64 0, .int .i64 0, .int .i64 0, .int .i64 0, .slice none 0 0, .int .i64 0, .int .i64 0, .int .i64 0, .int .i64 0, .int .i64 0, .bool false], .bool false]) ∧ Below w.heap.size w w' := by
  have hl := hb.len
  by_cases h1 : n < 6
  · exact crefdec_short h1
  by_cases h6 : nm bs 0 1 = 6
  · by_cases h2 : n = 25
    · by_cases hg : goodC 6 (nm bs 1 1) (nm bs 2 2) (nm bs 4 2) 0 (nm bs 6 1) 0 (nm bs 7 8) (nm bs 15 8) (nm bs 23 1) (nm bs 24 1 == 1)
      · exact crefdec_six_off hb hB hn h6 h2 hg (beq_eq_false_iff_ne.2 fun e => h (ok_six (by omega) h6 ((cm_nine (by omega) h6).1 e) hg))
      · exact crefdec_six_bad hb hB hn h6 h2 hg
    · exact crefdec_six_len hb hB hn (by omega) h6 h2
  by_cases h2 : nm bs 0 1 = 2
  · refine crefdec_two_bad hb hB hn (by omega) h2 fun hg => h (ok_not (by omega) h6 ?_)
    rw [hl, h2]; exact hg
  by_cases hg : goodC (nm bs 0 1) (nm bs 1 1) (nm bs 2 2) (nm bs 4 2) 0 0 0 0 0 0 false
  · refine crefdec_other_off hb hB hn (by omega) h2 h6 hg (beq_eq_false_iff_ne.2 fun e => h (ok_not (by omega) h6 ?_))
    have hlen := congrArg List.length e
    rw [cmB_not h6, List.append_nil, len_fbytes, show fsize (fl4 (nm bs 0 1) (nm bs 1 1) (nm bs 2 2) (nm bs 4 2)) = 6 from rfl] at hlen
    rw [show bs.length - 6 = 0 by omega]
    exact hg
  · exact crefdec_other_bad hb hB hn (by omega) h2 h6 hg
end

/-! ## There and back -/
theorem nm_at {bs pre post : List UInt8} {x : Int} {a k : Nat} (e : bs = pre ++ (numB x k k ++ post)) (hp : pre.length = a) (h : okPut k x) (hw : (Lit.int .i64 x).wf = true) : nm bs a k = x := by
  subst e hp
  rw [nm, List.drop_left, List.take_left' (len_numB x k k)]
  exact back_num h hw
theorem cm_back {kind unit block many : Int} {op key new ty : Int} {st : Bool} {ds : List UInt8} (hg : goodC kind unit block many ds.length op 0 key new ty st)
    (hwf : (Lit.int .i64 kind).wf = true ∧ (Lit.int .i64 unit).wf = true ∧ (Lit.int .i64 block).wf = true ∧ (Lit.int .i64 many).wf = true) (hwf2 : (Lit.int .i64 op).wf = true ∧ (Lit.int .i64 key).wf = true ∧ (Lit.int .i64 new).wf = true ∧ (Lit.int .i64 ty).wf = true)
    {bs : List UInt8} (he : bs = cmB kind unit block many op key new ty st ds) :
    cdecOk bs ∧ nm bs 0 1 = kind ∧ nm bs 1 1 = unit ∧ nm bs 2 2 = block ∧ nm bs 4 2 = many ∧ rOp bs = op ∧ rKey bs = key ∧ rNew bs = new ∧ rTy bs = ty ∧ rSt bs = st ∧ datc bs = ds := by
  obtain ⟨h1, h7, u1, u2, b1, b2, m1, m2, a2, a0, az, a6⟩ := hg
  by_cases h6 : kind = 6
  · subst h6
    obtain ⟨_, o1, o2, k1, n1, t1, t2⟩ := a6 rfl
    have hd : ds = [] := List.eq_nil_of_length_eq_zero (a0 (by decide))
    subst hd
    rw [cmB_six, List.append_nil] at he
    have e9 : bs = numB 6 1 1 ++ (numB unit 1 1 ++ (numB block 2 2 ++ (numB many 2 2 ++ (numB op 1 1 ++ (numB key 8 8 ++ (numB new 8 8 ++ (numB ty 1 1 ++ (numB (stI st) 1 1 ++ [])))))))) := he
    have f0 : nm bs 0 1 = 6 := nm_at (pre := []) e9 rfl (okPut_one.2 (by omega)) hwf.1
    have f1 : nm bs 1 1 = unit := nm_at (pre := numB 6 1 1) e9 (len_numB _ _ _) (okPut_one.2 (by omega)) hwf.2.1
    have f2 : nm bs 2 2 = block := nm_at (pre := numB 6 1 1 ++ numB unit 1 1) (by rw [e9]; simp only [List.append_assoc]; rfl) (by simp [len_numB]) (okPut_two.2 (by omega)) hwf.2.2.1
    have f4 : nm bs 4 2 = many := nm_at (pre := numB 6 1 1 ++ numB unit 1 1 ++ numB block 2 2) (by rw [e9]; simp only [List.append_assoc]; rfl) (by simp [len_numB]) (okPut_two.2 (by omega)) hwf.2.2.2
    have f6 : nm bs 6 1 = op := nm_at (pre := numB 6 1 1 ++ numB unit 1 1 ++ numB block 2 2 ++ numB many 2 2) (by rw [e9]; simp only [List.append_assoc]; rfl) (by simp [len_numB]) (okPut_one.2 (by omega)) hwf2.1
    have f7 : nm bs 7 8 = key := nm_at (pre := numB 6 1 1 ++ numB unit 1 1 ++ numB block 2 2 ++ numB many 2 2 ++ numB op 1 1) (by rw [e9]; simp only [List.append_assoc]; rfl) (by simp [len_numB]) okPut_eight hwf2.2.1
    have f15 : nm bs 15 8 = new := nm_at (pre := numB 6 1 1 ++ numB unit 1 1 ++ numB block 2 2 ++ numB many 2 2 ++ numB op 1 1 ++ numB key 8 8) (by rw [e9]; simp only [List.append_assoc]; rfl) (by simp [len_numB]) okPut_eight hwf2.2.2.1
    have f23 : nm bs 23 1 = ty := nm_at (pre := numB 6 1 1 ++ numB unit 1 1 ++ numB block 2 2 ++ numB many 2 2 ++ numB op 1 1 ++ numB key 8 8 ++ numB new 8 8) (by rw [e9]; simp only [List.append_assoc]; rfl) (by simp [len_numB]) (okPut_one.2 (by omega)) hwf2.2.2.2
    have f24 : nm bs 24 1 = stI st := nm_at (pre := numB 6 1 1 ++ numB unit 1 1 ++ numB block 2 2 ++ numB many 2 2 ++ numB op 1 1 ++ numB key 8 8 ++ numB new 8 8 ++ numB ty 1 1) (by rw [e9]; simp only [List.append_assoc]; rfl) (by simp [len_numB]) (stI_put st) (by cases st <;> rfl)
    have fs : (nm bs 24 1 == 1) = st := by rw [f24]; cases st <;> rfl
    have h25 : bs.length = 25 := by rw [e9]; simp [len_numB]
    refine ⟨ok_six h25 f0 (by rw [f24]; cases st <;> simp [stI]) ?_, f0, f1, f2, f4, ?_⟩
    · rw [f1, f2, f4, f6, f7, f15, f23, fs]
      exact ⟨h1, h7, u1, u2, b1, b2, m1, m2, a2, a0, az, a6⟩
    · rw [rOp, rKey, rNew, rTy, rSt, if_pos f0, if_pos f0, if_pos f0, if_pos f0, if_pos f0, datc_six f0]
      exact ⟨f6, f7, f15, f23, fs, List.drop_of_length_le (by omega)⟩
  · obtain ⟨rfl, _, rfl, rfl, rfl, rfl⟩ := az h6
    rw [cmB_not h6] at he
    have e4 : bs = (numB kind 1 1 ++ (numB unit 1 1 ++ (numB block 2 2 ++ (numB many 2 2 ++ [])))) ++ ds := he
    simp only [List.append_assoc, List.nil_append] at e4
    have f0 : nm bs 0 1 = kind := nm_at (pre := []) e4 rfl (okPut_one.2 (by omega)) hwf.1
    have f1 : nm bs 1 1 = unit := nm_at (pre := numB kind 1 1) e4 (len_numB _ _ _) (okPut_one.2 (by omega)) hwf.2.1
    have f2 : nm bs 2 2 = block := nm_at (pre := numB kind 1 1 ++ numB unit 1 1) (by rw [e4]; simp only [List.append_assoc]; rfl) (by simp [len_numB]) (okPut_two.2 (by omega)) hwf.2.2.1
    have f4 : nm bs 4 2 = many := nm_at (pre := numB kind 1 1 ++ numB unit 1 1 ++ numB block 2 2) (by rw [e4]; simp only [List.append_assoc]; rfl) (by simp [len_numB]) (okPut_two.2 (by omega)) hwf.2.2.2
    have f6 : nm bs 0 1 ≠ 6 := by rw [f0]; exact h6
    have hdl : bs.drop 6 = ds := by rw [he]; exact List.drop_left' (by rw [len_fbytes]; rfl)
    have hl : bs.length = 6 + ds.length := by rw [he, List.length_append, len_fbytes]; rfl
    refine ⟨ok_not (by omega) f6 ?_, f0, f1, f2, f4, ?_⟩
    · rw [f0, f1, f2, f4, show bs.length - 6 = ds.length by omega]
      exact ⟨h1, h7, u1, u2, b1, b2, m1, m2, a2, a0, az, a6⟩
    · rw [rOp, rKey, rNew, rTy, rSt, if_neg f6, if_neg f6, if_neg f6, if_neg f6, if_neg f6, datc_not f6]
      exact ⟨rfl, rfl, rfl, rfl, rfl, hdl⟩
end Go.Proofs.Ytjjpifppdjpcnaa
