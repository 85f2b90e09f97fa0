/-
  Several texts of plain lemmas and contracts, one behind the other: Apart, Apart2.
-/
import Derived.Test.YtdifepfplfkfoaaNum

/-
  The verifier's Apart: lists of bytes of the call's own that share no memory are apart.
-/
section
namespace Go.Proofs.Ytdifepfplfkfoaa
open Go.RowKit
set_option linter.unusedVariables false
set_option maxRecDepth 100000

/-- The byte that marks place j of list k. -/
def patB (k j : Nat) : UInt8 := UInt8.ofNat (29 * k + 5 * j + 3)
def pats (k n : Nat) : List UInt8 := (List.range n).map (patB k)
theorem len_pats (k n : Nat) : (pats k n).length = n := by simp [pats]
theorem pats_succ (k n : Nat) : pats k (n + 1) = pats k n ++ [patB k n] := by simp [pats, List.range_succ]
theorem pats_get (k n j : Nat) (h : j < n) : (pats k n)[j]? = some (patB k j) := by simp [pats, h]
theorem pats_take (k n m : Nat) (h : m ≤ n) : (pats k n).take m = pats k m := by
  rw [pats, ← List.map_take, List.take_range, Nat.min_eq_left h]; rfl
theorem pat_wrap (k j : Nat) : IntKind.u8.wrap (29 * (k : Int) + 5 * (j : Int) + 3) = ((patB k j).toNat : Int) := by
  rw [IntKind.wrap_u8', patB, UInt8.toNat_ofNat']
  omega
theorem pat_conv (k j : Nat) (w : World) : (convert 3 5 (.int .i64 (29 * (k : Int) + 5 * (j : Int) + 3))).run Try.prog w = .ok (.int .u8 ((patB k j).toNat : Int)) w := by
  rw [← pat_wrap]
  simp [go_sem]

/-- One of the lists: where it lies, how long it is, its room. -/
structure Lst where
  A : Option Addr
  n : Nat
  c : Nat
def Lst.val (l : Lst) : Value := .slice l.A l.n l.c
/-- Two lists share no memory. -/
def Lst.far (l m : Lst) : Prop := wrote l.A l.c = none ∨ wrote l.A l.c ≠ wrote m.A m.c

theorem Lst.far_symm {l m : Lst} (h : l.far m) : m.far l := by
  unfold Lst.far at *
  by_cases h1 : wrote m.A m.c = none
  · exact .inl h1
  · right
    rcases h with h | h
    · rw [h]; exact h1
    · exact fun e => h e.symm
theorem Row.keepRow {w w' : World} {base size : Nat} {e : TypeId} {A : Option Addr} {n c : Nat} {xs : List Value} {row : Option Nat} (h : Row w base e size A n c xs) (hg : w.grownBy w' row) (hn : wrote A c = none ∨ wrote A c ≠ row) : Row w' base e size A n c xs := by
  refine ⟨h.1, h.2.1, h.2.2.1, fun hc => ?_⟩
  obtain ⟨g, cur, e1, hgb, hb, hs, ht⟩ := h.2.2.2 hc
  have hw : wrote A c = some g := by rw [wrote, if_neg (by omega), e1]; rfl
  rw [hw] at hn
  exact ⟨g, cur, e1, hgb, hb.grown hg (hn.resolve_left (by simp)), hs, ht⟩
theorem Row.wrote_lt {w : World} {base size : Nat} {e : TypeId} {A : Option Addr} {n c : Nat} {xs : List Value} (h : Row w base e size A n c xs) : wrote A c = none ∨ ∃ g cur, wrote A c = some g ∧ base ≤ g ∧ g < w.heap.size ∧ Blk w g e cur := by
  rcases Nat.eq_zero_or_pos c with hc | hc
  · left; simp [wrote, hc]
  · right
    obtain ⟨g, cur, e1, hgb, hb, _⟩ := h.2.2.2 hc
    exact ⟨g, cur, by rw [wrote, if_neg (by omega), e1]; rfl, hgb, hb.lt, hb⟩
/-- Rows of unlike elements share no block. -/
theorem Row.other {w : World} {base base' size size' : Nat} {e e' : TypeId} {A A' : Option Addr} {n n' c c' : Nat} {xs xs' : List Value} (h : Row w base e size A n c xs) (h' : Row w base' e' size' A' n' c' xs') (hne : e ≠ e') :
    wrote A c = none ∨ wrote A c ≠ wrote A' c' := by
  rcases h.wrote_lt with h1 | ⟨g, cur, h1, _, _, hb⟩
  · exact .inl h1
  · right
    rcases h'.wrote_lt with h2 | ⟨g', cur', h2, _, _, hb'⟩
    · rw [h1, h2]; simp
    · rw [h1, h2]
      intro e1
      have e1 := Option.some.inj e1
      subst e1
      unfold Blk at hb hb'
      rw [hb] at hb'
      simp only [Option.some.injEq, Obj.cells.injEq] at hb'
      exact hne hb'.2.1
/-- What shared no block with a slice shares none with what an append made of it. -/
theorem Row.far_went {w w1 w2 : World} {base size : Nat} {e : TypeId} {A A1 A2 : Option Addr} {n c n1 c1 m c2 : Nat} {xs : List Value} (h : Row w base e size A n c xs) (hle : w.heap.size ≤ w1.heap.size) (q : Went w1 w2 A1 n1 c1 m A2 c2)
    (hf : wrote A c = none ∨ wrote A c ≠ wrote A1 c1) : wrote A c = none ∨ wrote A c ≠ wrote A2 c2 := by
  rcases q with ⟨_, rfl, rfl, _⟩ | ⟨_, rfl, _, _⟩
  · exact hf
  · rcases h.wrote_lt with h1 | ⟨g, cur, h1, _, hlt, _⟩
    · exact .inl h1
    · right
      rw [h1, wrote]
      split
      · simp
      · intro e1
        have := Option.some.inj e1
        simp at this
        omega
theorem Row.went_far {w w1 w2 : World} {base size : Nat} {e : TypeId} {A A1 A2 : Option Addr} {n c n1 c1 m c2 : Nat} {xs : List Value} (h : Row w base e size A n c xs) (hle : w.heap.size ≤ w1.heap.size) (q : Went w1 w2 A1 n1 c1 m A2 c2)
    (hf : wrote A1 c1 = none ∨ wrote A1 c1 ≠ wrote A c) : wrote A2 c2 = none ∨ wrote A2 c2 ≠ wrote A c := by
  rcases q with ⟨_, rfl, rfl, _⟩ | ⟨_, rfl, _, _⟩
  · exact hf
  · rcases h.wrote_lt with h1 | ⟨g, cur, h1, _, hlt, _⟩
    · rcases Nat.eq_zero_or_pos c2 with h0 | h0
      · left; simp [wrote, h0]
      · right; rw [h1, wrote, if_neg (by omega)]; simp
    · rcases Nat.eq_zero_or_pos c2 with h0 | h0
      · left; simp [wrote, h0]
      · right
        rw [h1, wrote, if_neg (by omega)]
        intro e1
        have := Option.some.inj e1
        simp at this
        omega
/-- A byte of one's own row written: 's[j] = x'. -/
theorem OwB.put {w : World} {base : Nat} {g n c : Nat} {bs : List UInt8} (h : OwB w base (some ⟨g, 0, none⟩) n c bs) {j : Nat} (hj : j < n) (x : UInt8) :
    OwB (w.setCell ⟨g, j, none⟩ (b8 x)) base (some ⟨g, 0, none⟩) n c (bs.set j x) := by
  have hl := h.len
  have hnc := h.2.1
  refine ⟨by simp [hl], h.2.1, h.2.2.1, fun hc => ?_⟩
  obtain ⟨g', cur, e1, hgb, hb, hs, ht⟩ := h.2.2.2 hc
  simp only [Option.some.injEq, Addr.mk.injEq, and_true] at e1
  subst e1
  refine ⟨g, _, rfl, hgb, hb.set_ j _, by simpa using hs, ?_⟩
  rw [Nat.mul_one] at ht ⊢
  rw [Array.toList_setIfInBounds, List.take_set, ht, List.map_set]

theorem take_set (bs : List UInt8) (j : Nat) (x : UInt8) (h : j < bs.length) : (bs.set j x).take (j + 1) = bs.take j ++ [x] := by
  rw [List.take_succ_eq_append_getElem (by simpa using h), List.take_set_of_le (Nat.le_refl j), List.getElem_set_self]
/-- The lists stand marked; those that were grown stand marked and apart from the ones still to come. -/
def Marked2 (ls gs : List Lst) (base k : Nat) (wr : World) : Prop :=
  (∀ (m : Nat) (l : Lst), ls[m]? = some l → OwB wr base l.A l.n l.c (pats m l.n)) ∧
  (∀ (m : Nat) (g : Lst), gs[m]? = some g → OwB wr base g.A g.n g.c (pats m g.n) ∧ ∃ l, ls[m]? = some l ∧ g.n = l.n + 10) ∧
  (∀ (m m' : Nat) (g l : Lst), gs[m]? = some g → k ≤ m' → ls[m']? = some l → l.far g)

theorem slice_info : (Try.prog.info? 22).map (fun i => (i.zero, i.size, i.bytes)) = some (some (.slice none 0 0), 1, 24) := by kernel_rfl

theorem Sl.new1 (w : World) (e : TypeId) (v : Value) : Sl (w.alloc (.cells #[v] e)) (w.heap.size + 1) 1 (some ⟨w.heap.size, 0, none⟩) 1 1 [v] := by
  refine ⟨rfl, Nat.le_refl _, by simp [maxLen], fun _ => ⟨w.heap.size, 0, rfl, Nat.lt_succ_self _, fun j u hu => ?_⟩⟩
  rw [(Blk.new w e #[v]).cell, Nat.zero_add]
  simpa using hu
theorem one_slice (A : Option Addr) (n c : Nat) : ∀ u ∈ [Value.slice A n c], u.oneCell' = true := by
  intro u hu
  simp at hu
  subst hu
  rfl
/-- All lists are the call's own, those ahead of number i are marked. -/
def Marked (ls : List Lst) (base i : Nat) (wr : World) : Prop :=
  ∀ m l, ls[m]? = some l → ∃ bs, OwB wr base l.A l.n l.c bs ∧ (m < i → bs = pats m l.n)

set_option maxHeartbeats 2000000 in
theorem apart_c {w : World} {base K C : Nat} {A : Option Addr} {ls : List Lst} (hL : Row w base 22 1 A K C (ls.map Lst.val)) (hbase : base ≤ w.heap.size)
    (hown : Marked ls base 0 w) (hnn : ∀ l ∈ ls, l.n ≤ 140737488355000) (hfar : ∀ (i j : Nat) (l m : Lst), i ≠ j → ls[i]? = some l → ls[j]? = some m → l.far m) (hK : K ≤ 1099511627776) :
    Calls Try.prog 22 #[.slice A K C] w fun e w' => e = .returned (.bool true) ∧ Below base w w' := by
  have hlen : ls.length = K := by have := hL.1; simpa using this
  have hKC := hL.2.1
  have hC : C ≤ 9223372036854775807 := hL.2.2.1
  have HF := Lib.hid hfar
  have HN := Lib.hid hnn
  have HLEN := Lib.hid hlen
  have HL0 := Lib.hid hL
  have HO := Lib.hid hown
  clear hfar hnn hlen hL hown
  obtain ⟨i0, hI, hz0, hz1, hz2⟩ := info_parts slice_info
  go_enter Try.func22, Try.ntmps22
  go_wp2_with fail
  go_loopw [15] (fun v wr => ∃ i : Nat, i ≤ K ∧ v = .int .i64 i ∧ Marked ls base i wr ∧ Row wr base 22 1 A K C (ls.map Lst.val) ∧ Below base w wr) (fun v _ => K - (intOf v).toNat)
  case atStart => exact ⟨0, by omega, rfl, HO.out, HL0.out, Below.refl _ _⟩
  case round =>
    obtain ⟨i, hi, rfl, hmk, hrow, hbel⟩ := hrel
    by_cases hik : i < K
    · obtain ⟨⟨A1, n1, c1⟩, hl⟩ : ∃ l, ls[i]? = some l := ⟨ls[i]'(by have := HLEN.out; omega), List.getElem?_eq_getElem _⟩
      obtain ⟨gL, curL, rfl, hgL, hbL, hsL, htL⟩ := hrow.2.2.2 (by omega)
      have hcl : wr.cell? ⟨gL, i, none⟩ = some (.slice A1 n1 c1) := by
        obtain ⟨b, off, e1, _, hj⟩ := hrow.sl.at_ (by omega)
        simp only [Option.some.injEq, Addr.mk.injEq, and_true] at e1
        obtain ⟨rfl, rfl⟩ := e1
        have := hj i (Lst.val ⟨A1, n1, c1⟩) (by simp [hl])
        simpa [Lst.val] using this
      have hn1 : n1 ≤ 140737488355000 := HN.out _ (List.mem_of_getElem? hl)
      have HM := Lib.hid hmk
      have HR := Lib.hid hrow
      have HB := Lib.hid hbel
      have HLi := Lib.hid hl
      clear hmk hrow hbel hl hbL hsL htL
      go_wp2_with fail
      obtain ⟨wo, rfl⟩ : ∃ wo : World, wo = wr := ⟨_, rfl⟩
      go_loopw [22] (fun v wr => ∃ j : Nat, j ≤ n1 ∧ v = .int .i64 j ∧ (∀ m l, ls[m]? = some l → ∃ bs, OwB wr base l.A l.n l.c bs ∧ (m < i → bs = pats m l.n) ∧ (m = i → bs.take j = pats i j)) ∧ Row wr base 22 1 (some ⟨gL, 0, none⟩) K C (ls.map Lst.val) ∧ Below base w wr)
        (fun v _ => n1 - (intOf v).toNat)
      case atStart =>
        refine ⟨0, by omega, rfl, fun m l hm => ?_, HR.out, HB.out⟩
        obtain ⟨bs, h1, h2⟩ := HM.out m l hm
        exact ⟨bs, h1, h2, fun _ => by simp [pats]⟩
      case round =>
        obtain ⟨j, hj, rfl, hmk2, hrow2, hbel2⟩ := hrel
        by_cases hjn : j < n1
        · obtain ⟨bs, ho, _, hbj⟩ := hmk2 i _ HLi.out
          have hoc := ho.2.1
          obtain ⟨g, cur, rfl, hg, hb, hs, ht⟩ := ho.2.2.2 (by simp only at hoc ⊢; omega)
          simp only at ho hoc hs ht
          obtain ⟨x, hx⟩ : ∃ x, bs[j]? = some x := ⟨bs[j]'(by have := ho.len; omega), List.getElem?_eq_getElem _⟩
          have hcv : wr.cell? ⟨g, j, none⟩ = some (.int .u8 (x.toNat : Int)) := by
            obtain ⟨b, off, e1, _, hj⟩ := ho.sl.at_ (by omega)
            simp only [Option.some.injEq, Addr.mk.injEq, and_true] at e1
            obtain ⟨rfl, rfl⟩ := e1
            have := hj j x hx
            simpa using this
          have hfz : wr.frozen? ⟨g, j, none⟩ = false := hb.frozen j
          have hpat := pat_wrap i j
          have HO1 := Lib.hid ho
          have HM2 := Lib.hid hmk2
          have HR2 := Lib.hid hrow2
          have HB2 := Lib.hid hbel2
          have HBJ := Lib.hid hbj
          have HBK := Lib.hid hb
          clear ho hmk2 hrow2 hbel2 hbj hb hs ht hx
          go_wp2_with fail
          go_roundw
          case rel =>
            refine ⟨j + 1, by omega, by go_num, fun m l hm => ?_, HR2.out.keep (fun g' e hlt => ?_), HB2.out.setCell hg _⟩
            · obtain ⟨bs', h1, h2, h3⟩ := HM2.out m l hm
              by_cases hmi : m = i
              · subst hmi
                obtain rfl : l = ⟨some ⟨g, 0, none⟩, n1, c1⟩ := by have := HLi.out; rw [hm] at this; exact Option.some.inj this
                refine ⟨bs'.set j (patB m j), h1.put hjn _, fun h => absurd h (by omega), fun _ => ?_⟩
                rw [take_set bs' j _ (by have := h1.len; simp only at this; omega), h3 rfl, pats_succ]
              · refine ⟨bs', Row.keepRow h1 (grownBy_setCell wr g j _) ?_, h2, fun h => absurd h hmi⟩
                have := HF.out m i l _ hmi hm HLi.out
                simp only [Lst.far] at this
                rwa [show wrote (some ⟨g, 0, none⟩) c1 = some g from by rw [wrote, if_neg (by omega)]; rfl] at this
            · refine Below.heap_setCell _ _ _ _ (fun e2 => ?_)
              simp only [Option.some.injEq, Addr.mk.injEq, and_true] at e
              obtain ⟨g2, cur2, e3, _, hb2, _⟩ := HR2.out.2.2.2 (by omega)
              simp only [Option.some.injEq, Addr.mk.injEq, and_true] at e3
              have h4 : g2 = g := by rw [← e3, e, e2]
              have h5 := HBK.out
              unfold Blk at hb2 h5
              rw [h4, h5] at hb2
              simp at hb2
          case measure => simp [intOf]; omega
        · obtain rfl : j = n1 := by omega
          have HM2 := Lib.hid hmk2
          have HR2 := Lib.hid hrow2
          have HB2 := Lib.hid hbel2
          clear hmk2 hrow2 hbel2
          go_wp2_with fail
          go_roundw
          case rel =>
            refine ⟨i + 1, by omega, by go_num, fun m l hm => ?_, HR2.out, HB2.out⟩
            obtain ⟨bs', h1, h2, h3⟩ := HM2.out m l hm
            refine ⟨bs', h1, fun hlt => ?_⟩
            by_cases hmi : m = i
            · subst hmi
              obtain rfl : l = ⟨A1, j, c1⟩ := by have := HLi.out; rw [hm] at this; exact Option.some.inj this
              have h4 := h3 rfl
              rwa [List.take_of_length_le (by have := h1.len; simp only at this; omega)] at h4
            · exact h2 (by omega)
          case measure => simp [intOf]; omega
    · obtain rfl : i = K := by omega
      have HM := Lib.hid hmk
      have HR := Lib.hid hrow
      have HB := Lib.hid hbel
      clear hmk hrow hbel
      go_wp2_with fail
      obtain ⟨wz, hwz⟩ : ∃ wz : World, wz = wr := ⟨_, rfl⟩
      rw [← hwz] at HM HR HB ⊢
      clear hwz
      have h0 : Row (wz.alloc (.cells #[] 22)) base 22 1 (some ⟨wz.heap.size, 0, none⟩) 0 0 [] := Row.nil _ _ _ _ _
      have H0 := Lib.hid h0
      clear h0
      go_loopw [6, 40] (fun v6 v40 wr => ∃ k : Nat, k ≤ i ∧ v40 = .int .i64 k ∧ ∃ (gs : List Lst) (Ag : Option Addr) (cg : Nat), v6 = .slice Ag k cg ∧ Row wr base 22 1 Ag k cg (gs.map Lst.val) ∧ Marked2 ls gs base k wr ∧
          (wrote A C = none ∨ wrote A C ≠ wrote Ag cg) ∧ Row wr base 22 1 A i C (ls.map Lst.val) ∧ Below base w wr) (fun _ v _ => i - (intOf v).toNat)
      case atStart =>
        refine ⟨0, by omega, rfl, [], some ⟨wz.heap.size, 0, none⟩, 0, rfl, H0.out, ⟨fun m l hm => ?_, by simp, by simp⟩, ?_, HR.out.alloc _, HB.out.alloc (Nat.le_trans hbase HB.out.size) _⟩
        · obtain ⟨bs, h1, h2⟩ := HM.out m l hm
          have hmi : m < i := by have := (List.getElem?_eq_some_iff.1 hm).1; have := HLEN.out; omega
          rw [h2 hmi] at h1
          exact h1.alloc _
        · by_cases hw : wrote A C = none
          · exact .inl hw
          · exact .inr (by simpa [wrote] using hw)
      case round =>
        clear H0
        obtain ⟨k, hk, rfl, gs, Ag, cg, rfl, hrg, hm2, hfl, hrow, hbel⟩ := hrel
        by_cases hki : k < i
        · obtain ⟨⟨A1, n1, c1⟩, hl⟩ : ∃ l, ls[k]? = some l := ⟨ls[k]'(by have := HLEN.out; omega), List.getElem?_eq_getElem _⟩
          obtain ⟨gL, curL, rfl, hgL, hbL, hsL, htL⟩ := hrow.2.2.2 (by omega)
          have hcl : wr.cell? ⟨gL, k, none⟩ = some (.slice A1 n1 c1) := by
            obtain ⟨b, off, e1, _, hj⟩ := hrow.sl.at_ (by omega)
            simp only [Option.some.injEq, Addr.mk.injEq, and_true] at e1
            obtain ⟨rfl, rfl⟩ := e1
            have := hj k (Lst.val ⟨A1, n1, c1⟩) (by simp [hl])
            simpa [Lst.val] using this
          have hn1 : n1 ≤ 140737488355000 := HN.out _ (List.mem_of_getElem? hl)
          have HRG := Lib.hid hrg
          have HM2 := Lib.hid hm2
          have HFL := Lib.hid hfl
          have HRW := Lib.hid hrow
          have HBL := Lib.hid hbel
          have HLk := Lib.hid hl
          clear hrg hm2 hfl hrow hbel hl hbL hsL htL
          go_wp2_with fail
          obtain ⟨wo, hwo⟩ : ∃ wo : World, wo = wr := ⟨_, rfl⟩
          rw [← hwo] at HRG HM2 HRW HBL hcl ⊢
          clear hwo
          go_loopw [8] (fun v wr => ∃ (nl cl : Nat) (Al : Option Addr), n1 ≤ nl ∧ nl ≤ n1 + 10 ∧ v = .slice Al nl cl ∧ OwB wr base Al nl cl (pats k nl) ∧ Row wr base 22 1 Ag k cg (gs.map Lst.val) ∧ Marked2 ls gs base k wr ∧
              (∀ (m : Nat) (l : Lst), m ≠ k → ls[m]? = some l → l.far ⟨Al, nl, cl⟩) ∧ (∀ (m : Nat) (g : Lst), gs[m]? = some g → g.far ⟨Al, nl, cl⟩) ∧ ((Al = A1 ∧ cl = c1) ∨ (wrote A1 c1 = none ∨ wrote A1 c1 ≠ wrote Al cl)) ∧
              Row wr base 22 1 (some ⟨gL, 0, none⟩) i C (ls.map Lst.val) ∧ Below base w wr)
            (fun v _ => n1 + 10 - (match v with | .slice _ n _ => n | _ => 0))
          case atStart =>
            refine ⟨n1, c1, A1, by omega, by omega, rfl, HM2.out.1 k _ HLk.out, HRG.out, HM2.out, fun m l hne hm => HF.out m k l _ hne hm HLk.out, fun m g hm => ?_, .inl ⟨rfl, rfl⟩, HRW.out, HBL.out⟩
            exact Lst.far_symm (l := ⟨A1, n1, c1⟩) (m := g) (HM2.out.2.2 m k g _ hm (Nat.le_refl _) HLk.out)
          case round =>
            obtain ⟨nl, cl, Al, hn0, hn9, rfl, hol, hrg, hm2, hf1, hf2, hf3, hrw, hbl⟩ := hrel
            have hszb : base ≤ wr.heap.size := Nat.le_trans hbase hbl.size
            have hpat := pat_wrap k nl
            have HOL := Lib.hid hol
            have HRG2 := Lib.hid hrg
            have HM3 := Lib.hid hm2
            have HF1 := Lib.hid hf1
            have HF2 := Lib.hid hf2
            have HF3 := Lib.hid hf3
            have HRW2 := Lib.hid hrw
            have HBL2 := Lib.hid hbl
            clear hol hrg hm2 hf1 hf2 hf3 hrw hbl
            by_cases hlt : nl < n1 + 10
            · have hltI : (nl : Int) < (n1 : Int) + 10 := by omega
              go_wp2_with (at_builtin; refine wpList_append8 rfl (.tmp 52) (.tmp 61) rfl rfl (HOL.out.alloc (.cells #[.int .u8 ((patB k nl).toNat : Int)] 5)) rfl (SlB.new wr _ [patB k nl] 1 (Nat.lt_succ_self _) rfl (by simp [maxLen]) rfl) (by omega) (Nat.le_trans hszb (by simp)) (nl + 1) rfl ?_; intro A9 c9 w9 h9 q9)
              go_roundw
              case rel =>
                have hal : wr.heap.size ≤ (wr.alloc (.cells #[.int .u8 ((patB k nl).toNat : Int)] 5)).heap.size := by simp
                have hkeep : ∀ {A' : Option Addr} {n' c' : Nat} {bs' : List UInt8}, OwB wr base A' n' c' bs' → (wrote A' c' = none ∨ wrote A' c' ≠ wrote Al cl) → OwB w9 base A' n' c' bs' := fun h hf => Row.keepRow (Row.alloc h _) q9.grown hf
                have hkl : OwB w9 base A1 n1 c1 (pats k n1) := by
                  rcases HF3.out with ⟨rfl, rfl⟩ | hf
                  · rcases q9 with ⟨_, rfl, rfl, _⟩ | ⟨hgr, rfl, _, hg0⟩
                    · have := h9.trim (k := n1) (by omega)
                      rw [← pats_succ, pats_take _ _ _ (by omega)] at this
                      exact this
                    · exact Row.keepRow (Row.alloc (HM3.out.1 k _ HLk.out) _) hg0 (by
                        by_cases hw : wrote Al cl = none
                        · exact .inl hw
                        · exact .inr hw)
                  · exact hkeep (HM3.out.1 k _ HLk.out) hf
                refine ⟨nl + 1, c9, A9, by omega, by omega, rfl, by rw [pats_succ]; exact h9, Row.keepRow (HRG2.out.alloc _) q9.grown (HRG2.out.other HOL.out (by decide)), ⟨fun m l hm => ?_, fun m g hm => ?_, HM3.out.2.2⟩, fun m l hne hm => Row.far_went (HM3.out.1 m l hm) hal q9 (HF1.out m l hne hm),
                  fun m g hm => Row.far_went (HM3.out.2.1 m g hm).1 hal q9 (HF2.out m g hm), ?_, Row.keepRow (HRW2.out.alloc _) q9.grown (HRW2.out.other HOL.out (by decide)), q9.below (HOL.out.alloc _) (HBL2.out.alloc hszb _) (Nat.le_refl _) (Nat.le_trans hszb hal)⟩
                · by_cases hmk : m = k
                  · subst hmk
                    obtain rfl : l = ⟨A1, n1, c1⟩ := by have := HLk.out; rw [hm] at this; exact Option.some.inj this
                    exact hkl
                  · exact hkeep (HM3.out.1 m l hm) (HF1.out m l hmk hm)
                · exact ⟨hkeep (HM3.out.2.1 m g hm).1 (HF2.out m g hm), (HM3.out.2.1 m g hm).2⟩
                · rcases HF3.out with ⟨rfl, rfl⟩ | hf
                  · rcases q9 with ⟨_, rfl, rfl, _⟩ | ⟨hgr, rfl, _, _⟩
                    · exact .inl ⟨rfl, rfl⟩
                    · right
                      rcases Row.wrote_lt (HM3.out.1 k _ HLk.out) with h1 | ⟨g, cur, h1, _, hlt2, _⟩
                      · exact .inl h1
                      · right
                        simp only at h1
                        rw [h1, wrote]
                        split
                        · simp
                        · intro e1
                          have := Option.some.inj e1
                          simp at this
                          omega
                  · exact .inr (Row.far_went (HM3.out.1 k _ HLk.out) hal q9 hf)
              case measure => simp only; omega
            · obtain rfl : nl = n1 + 10 := by omega
              have hgl := Lib.hid HRG2.out.1
              have hkb : k ≤ 1099511627776 := by omega
              clear hpat
              go_wp2_with (at_builtin; refine wpList_append_row rfl (.tmp 63) (.tmp 65) _ rfl Try.underlying49 hI hz0 hz1 hz2 rfl rfl (HRG2.out.alloc (.cells #[.slice Al (n1 + 10) cl] 22)) rfl (Sl.new1 wr _ (.slice Al (n1 + 10) cl)) (one_slice _ _ _) (by omega) (by simp only [maxLen]; omega) (Nat.le_trans hszb (by simp)) ?_; intro A9 c9 w9 h9 q9)
              go_roundw
              case rel =>
                have hal : wr.heap.size ≤ (wr.alloc (.cells #[.slice Al (n1 + 10) cl] 22)).heap.size := by simp
                have hgk : gs.length = k := by have := hgl.out; simpa using this
                have hkeep : ∀ {A' : Option Addr} {n' c' : Nat} {bs' : List UInt8}, OwB wr base A' n' c' bs' → OwB w9 base A' n' c' bs' := fun h => Row.keepRow (Row.alloc h _) q9.grown (Row.other h HRG2.out (by decide))
                refine ⟨k + 1, by omega, by go_num, gs ++ [⟨Al, n1 + 10, cl⟩], A9, c9, rfl, by rw [List.map_append]; exact h9, ⟨fun m l hm => hkeep (HM3.out.1 m l hm), fun m g hm => ?_, fun m m' g l hm hmm hl => ?_⟩,
                  Row.far_went HRW2.out hal q9 HFL.out, Row.keepRow (HRW2.out.alloc _) q9.grown HFL.out, q9.below (HRG2.out.alloc _) (HBL2.out.alloc hszb _) (Nat.le_refl _) (Nat.le_trans hszb hal)⟩
                · rw [List.getElem?_append] at hm
                  split at hm
                  · exact ⟨hkeep (HM3.out.2.1 m g hm).1, (HM3.out.2.1 m g hm).2⟩
                  · rename_i hge
                    have hmk : m = k := by
                      have h1 := (List.getElem?_eq_some_iff.1 hm).1
                      simp at h1
                      omega
                    subst hmk
                    rw [hgk, Nat.sub_self] at hm
                    simp only [List.getElem?_cons_zero, Option.some.injEq] at hm
                    subst hm
                    exact ⟨hkeep HOL.out, _, HLk.out, rfl⟩
                · rw [List.getElem?_append] at hm
                  split at hm
                  · exact HM3.out.2.2 m m' g l hm (by omega) hl
                  · have hmk : m = k := by
                      have h1 := (List.getElem?_eq_some_iff.1 hm).1
                      simp at h1
                      omega
                    subst hmk
                    rw [hgk, Nat.sub_self] at hm
                    simp only [List.getElem?_cons_zero, Option.some.injEq] at hm
                    subst hm
                    exact HF1.out m' l (by omega) hl
              case measure => simp [intOf]; omega
        · obtain rfl : k = i := by omega
          have HRG := Lib.hid hrg
          have HM2 := Lib.hid hm2
          have HRW := Lib.hid hrow
          have HBL := Lib.hid hbel
          have hcg1 := hrg.2.1
          have hcg2 : cg ≤ 9223372036854775807 := hrg.2.2.1
          clear hrg hm2 hfl hrow hbel
          go_wp2_with fail
          obtain ⟨wf, hwf⟩ : ∃ wf : World, wf = wr := ⟨_, rfl⟩
          rw [← hwf] at HRG HM2 HRW HBL ⊢
          clear hwf
          go_loopw [70] (fun v wr => ∃ q d : Nat, q ≤ k ∧ v = .int .i64 q ∧ wr = wf.drewN d) (fun v _ => k - (intOf v).toNat)
          case atStart => exact ⟨0, 0, by omega, rfl, rfl⟩
          case round =>
            obtain ⟨q, d, hq, rfl, rfl⟩ := hrel
            by_cases hqk : q < k
            · have hgk : gs.length = k := by have := HRG.out.1; simpa using this
              obtain ⟨⟨A2, n2, c2⟩, hg2⟩ : ∃ g, gs[q]? = some g := ⟨gs[q]'(by omega), List.getElem?_eq_getElem _⟩
              obtain ⟨hG, ⟨A1, n1, c1⟩, hl1, hn2⟩ := HM2.out.2.1 q _ hg2
              simp only at hG hn2
              subst hn2
              have hX := HM2.out.1 q _ hl1
              simp only at hX
              have hn1 : n1 ≤ 140737488355000 := HN.out _ (List.mem_of_getElem? hl1)
              obtain ⟨gG, oG, rfl, _, hjG⟩ := HRG.out.sl.at_ (by omega)
              obtain ⟨gL, oL, rfl, _, hjL⟩ := HRW.out.sl.at_ (by omega)
              have hcG : wf.cell? ⟨gG, oG + q, none⟩ = some (.slice A2 (n1 + 10) c2) := by
                have := hjG q (Lst.val ⟨A2, n1 + 10, c2⟩) (by simp [hg2])
                simpa [Lst.val] using this
              have hcL : wf.cell? ⟨gL, oL + q, none⟩ = some (.slice A1 n1 c1) := by
                have := hjL q (Lst.val ⟨A1, n1, c1⟩) (by simp [hl1])
                simpa [Lst.val] using this
              have hGc := hG.2.1
              have hGm : c2 ≤ 9223372036854775807 := hG.2.2.1
              have hXc := hX.2.1
              have hXm : c1 ≤ 9223372036854775807 := hX.2.2.1
              obtain ⟨g2, o2, rfl, _, hj2⟩ := hG.sl.at_ (by omega)
              have HX := Lib.hid hX
              have HJ2 := Lib.hid hj2
              clear hjG hjL hG hX hg2 hl1 hj2
              go_wp2_with fail
              go_loopw [77] (fun v wr => ∃ j d : Nat, j ≤ n1 + 10 ∧ v = .int .i64 j ∧ wr = wf.drewN d) (fun v _ => n1 + 10 - (intOf v).toNat)
              case atStart => exact ⟨0, d, by omega, rfl, rfl⟩
              case round =>
                obtain ⟨j, d2, hj, rfl, rfl⟩ := hrel
                by_cases hjn : j < n1 + 10
                · have hc2 : wf.cell? ⟨g2, o2 + j, none⟩ = some (.int .u8 ((patB q j).toNat : Int)) := HJ2.out j _ (pats_get _ _ _ hjn)
                  have hpat := pat_wrap q j
                  have hjnI : (j : Int) < (n1 : Int) + 10 := by omega
                  by_cases hj1 : j < n1
                  · obtain ⟨g1, o1, rfl, _, hj1'⟩ := HX.out.sl.at_ (by omega)
                    have hc1 : wf.cell? ⟨g1, o1 + j, none⟩ = some (.int .u8 ((patB q j).toNat : Int)) := hj1' j _ (pats_get _ _ _ hj1)
                    have hj1I : (j : Int) < (n1 : Int) := by omega
                    clear hj1'
                    go_wp2_with fail
                    go_quiet (fail)
                    go_wp2_with fail
                    go_roundw
                    case rel => exact ⟨j + 1, _, by omega, by go_num, rfl⟩
                    case measure => simp [intOf]; omega
                  · have hj1I : decide ((j : Int) < (n1 : Int)) = false := by simp; omega
                    go_wp2_with fail
                    go_quiet (fail)
                    go_wp2_with fail
                    go_roundw
                    case rel => exact ⟨j + 1, _, by omega, by go_num, rfl⟩
                    case measure => simp [intOf]; omega
                · obtain rfl : j = n1 + 10 := by omega
                  go_wp2_with fail
                  go_roundw
                  case rel => exact ⟨q + 1, _, by omega, by go_num, rfl⟩
                  case measure => simp [intOf]; omega
            · obtain rfl : q = k := by omega
              go_wp2_with fail
              go_ret
              exact ⟨rfl, below_drewN HBL.out _⟩
end Go.Proofs.Ytdifepfplfkfoaa
end

/-
  Apart at two lists.
-/
section
namespace Go.Proofs.Ytdifepfplfkfoaa
open Go.RowKit
set_option linter.unusedVariables false

theorem far_of_base {w : World} {base : Nat} {A A' : Option Addr} {n c n' c' : Nat} {bs : List UInt8} (h : OwB w base A n c bs) (h' : ∀ g, wrote A' c' = some g → g < base) : Lst.far ⟨A, n, c⟩ ⟨A', n', c'⟩ := by
  unfold Lst.far
  rcases Row.wrote_lt h with h1 | ⟨g, _, h1, hg, _⟩
  · exact .inl h1
  · right
    simp only
    rw [h1]
    intro e
    have := h' g e.symm
    omega

/-- Apart at two lists. -/
theorem apart2_c {w : World} {base : Nat} {A1 A2 : Option Addr} {n1 c1 n2 c2 : Nat} {bs1 bs2 : List UInt8} (h1 : OwB w base A1 n1 c1 bs1) (h2 : OwB w base A2 n2 c2 bs2) (hn1 : n1 ≤ 140737488355000) (hn2 : n2 ≤ 140737488355000)
    (hbase : base ≤ w.heap.size) (hf : Lst.far ⟨A1, n1, c1⟩ ⟨A2, n2, c2⟩) :
    Calls Try.prog 22 #[.slice (some ⟨w.heap.size, 0, none⟩) 2 2] (w.alloc (.cells #[.slice A1 n1 c1, .slice A2 n2 c2] 22)) fun e w' => e = .returned (.bool true) ∧ Below base (w.alloc (.cells #[.slice A1 n1 c1, .slice A2 n2 c2] 22)) w' := by
  refine apart_c (ls := [⟨A1, n1, c1⟩, ⟨A2, n2, c2⟩]) ?_ (Nat.le_trans hbase (by simp)) ?_ ?_ ?_ (by omega)
  · exact Row.new w base 22 1 #[.slice A1 n1 c1, .slice A2 n2 c2] 2 2 hbase (Nat.le_refl _) (by simp [maxLen]) rfl
  · intro m l hm
    match m, hm with
    | 0, hm => simp at hm; subst hm; exact ⟨bs1, h1.alloc _, fun h => absurd h (by omega)⟩
    | 1, hm => simp at hm; subst hm; exact ⟨bs2, h2.alloc _, fun h => absurd h (by omega)⟩
  · intro l hl
    simp at hl
    rcases hl with rfl | rfl
    · exact hn1
    · exact hn2
  · intro i j l m hne hi hj
    match i, j, hi, hj with
    | 0, 0, _, _ => exact absurd rfl hne
    | 1, 1, _, _ => exact absurd rfl hne
    | 0, 1, hi, hj => simp at hi hj; subst hi; subst hj; exact hf
    | 1, 0, hi, hj => simp at hi hj; subst hi; subst hj; exact Lst.far_symm (l := ⟨A1, n1, c1⟩) (m := ⟨A2, n2, c2⟩) hf
end Go.Proofs.Ytdifepfplfkfoaa
end
