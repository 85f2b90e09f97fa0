/-
  words.Rows: the rows that bytes begin with, as an iterator that hands out clones.
-/
import Derived.WalkMore
import Derived.Test.YtkiiobfomnggcaaRangeG
import Derived.Test.YtkiiobfomnggcaaRefRowsB
import Derived.Test.YtkiiobfomnggcaaClone
namespace Go.Proofs.Ytkiiobfomnggcaa
open Go.RowKit Go.Shelf
set_option linter.unusedVariables false
set_option linter.unusedSimpArgs false
set_option maxRecDepth 100000

def NotIn (O : Nat → Prop) (A : Option Addr) (c : Nat) : Prop := ∀ g, wrote A c = some g → ¬ O g
theorem OwB.kept {w w' : World} {base : Nat} {A : Option Addr} {n c : Nat} {bs : List UInt8} {O O' : Nat → Prop} (h : OwB w base A n c bs) (hk : Kept O O' w w') (ho : NotIn O A c) : OwB w' base A n c bs :=
  hk.row h fun g e hc => ho g (by rw [wrote, if_neg (by omega), e]; rfl)
theorem NotIn.kept {w w' : World} {base : Nat} {A : Option Addr} {n c : Nat} {bs : List UInt8} {O O' : Nat → Prop} (h : OwB w base A n c bs) (hk : Kept O O' w w') (ho : NotIn O A c) : NotIn O' A c := fun g e => by
  rcases Row.wrote_lt h with h1 | ⟨g', _, h1, _, hlt, _⟩
  · rw [h1] at e; cases e
  · rw [h1] at e; cases e
    exact hk.far hlt (ho _ h1)
theorem NotIn.more {w : World} {base : Nat} {A : Option Addr} {n c : Nat} {bs : List UInt8} {O : Nat → Prop} {gg : Nat} (h : OwB w base A n c bs) (ho : NotIn O A c) (hg : w.heap.size ≤ gg) : NotIn (fun k => O k ∨ k = gg) A c := fun g e h2 => by
  rcases h2 with h2 | h2
  · exact ho g e h2
  · rcases Row.wrote_lt h with h1 | ⟨g', _, h1, _, hlt, _⟩
    · rw [h1] at e; cases e
    · rw [h1] at e; cases e; omega

/-- Where row number j begins; the row. -/
def atR (bs : List UInt8) (j : Nat) : Nat := eaten ((rowsOf bs).take j)
def rowR (bs : List UInt8) (j : Nat) : List UInt8 := ((rowsOf bs)[j]?).getD []
theorem atR_succ {bs : List UInt8} {j : Nat} (h : j < (rowsOf bs).length) : atR bs (j + 1) = atR bs j + (2 + (rowR bs j).length) := by
  rw [atR, List.take_succ_eq_append_getElem h, eaten_snoc, atR, rowR, List.getElem?_eq_getElem h, Option.getD_some]
  omega
theorem rows_step {bs : List UInt8} {j a m : Nat} (hd : (rowsOf bs).drop j = rowsOf (bs.drop a)) (hm : rowLen (bs.drop a) = some m) : j < (rowsOf bs).length ∧ rowR bs j = (bs.drop (a + 2)).take m ∧ (rowR bs j).length = m ∧ (rowsOf bs).drop (j + 1) = rowsOf (bs.drop (a + (2 + m))) ∧ a + (2 + m) ≤ bs.length := by
  have h1 := rowsOf_some hm
  rw [← hd] at h1
  have hj : j < (rowsOf bs).length := by
    rcases Nat.lt_or_ge j (rowsOf bs).length with h | h
    · exact h
    · rw [List.drop_of_length_le h] at h1; cases h1
  rw [List.drop_eq_getElem_cons hj] at h1
  injection h1 with e1 e2
  have hl := (rowLen_some hm).1
  rw [List.length_drop] at hl
  have er : rowR bs j = (bs.drop (a + 2)).take m := by
    rw [rowR, List.getElem?_eq_getElem hj, Option.getD_some, e1, List.drop_drop]
  refine ⟨hj, er, ?_, ?_, by omega⟩
  · rw [er, List.length_take, List.length_drop]; omega
  · rw [e2, List.drop_drop]
theorem rows_end {bs : List UInt8} {j a : Nat} (hd : (rowsOf bs).drop j = rowsOf (bs.drop a)) (hm : rowLen (bs.drop a) = none) (hj : j ≤ (rowsOf bs).length) : j = (rowsOf bs).length := by
  rw [rowsOf_none hm] at hd
  have := congrArg List.length hd
  rw [List.length_drop, List.length_nil] at this
  omega

def encR (bs : List UInt8) (x : Nat × Option Addr × Nat) : Array Value := #[Value.int .i64 (atR bs x.1 : Int), Value.slice x.2.1 (rowR bs x.1).length x.2.2]
/-- What holds of a row that is handed out. -/
def GR (b : Nat) (bs : List UInt8) (O : Nat → Prop) (pre : List (Nat × Option Addr × Nat)) (x : Nat × Option Addr × Nat) (W : World) : Prop :=
  x.1 = pre.length ∧ x.1 < (rowsOf bs).length ∧ OwB W b x.2.1 (rowR bs x.1).length x.2.2 (rowR bs x.1) ∧ ∀ g, wrote x.2.1 x.2.2 = some g → O g

set_option maxHeartbeats 4000000 in
theorem rows_iter {w : World} {p1 B N c : Nat} {A : Option Addr} {bs : List UInt8} (b1 : Blk w p1 22 #[.slice A N c]) (ha : OwB w B A N c bs) (hn : N ≤ 1099511627776) :
    IterG Try.prog 30 #[.pointer (some ⟨p1, 0, none⟩)] (encR bs) (fun k => k ≠ p1 ∧ wrote A c ≠ some k) (GR w.heap.size bs) (fun xs => xs.length = (rowsOf bs).length) (fun pre => pre.length ≤ (rowsOf bs).length) w := by
  intro l J Jx O W hW hJ hJx hJm hO hY h0
  refine callsIn_wide.2 ?_
  show Calls _ _ #[.func (.yield l) #[] #[], .pointer (some ⟨p1, 0, none⟩)] _ _
  have B1 := b1.below hW b1.lt
  have hA1 := ha.below hW
  have d1 : W.cell? ⟨p1, 0, none⟩ = some (.slice A N c) := by rw [B1.cell]; rfl
  have hzW := hW.size
  have HLEN := Lib.hid ha.len
  have HA := Lib.hid hA1
  have HY := Lib.hid hY
  have HB1 := Lib.hid B1
  have HJ := Lib.hid hJ
  have HJM := Lib.hid hJm
  have ho1 : ¬ O p1 := fun h => (hO _ h).1.1 rfl
  have HO3 := Lib.hid (show NotIn O A c from fun g e h => (hO _ h).1.2 e)
  obtain ⟨q0, hq0⟩ : ∃ q0, q0 = firstN bs := ⟨_, rfl⟩
  have HQ0 := Lib.hid hq0
  clear hY b1 B1 hJ hJm hO ha hA1 hq0
  go_enter Try.func30, Try.ntmps30
  go_wp2_with fail
  go_step3
  go_wp2_with (go_at_call 31; refine (first_c HA.out.sl).mono ?_; rintro e Wd ⟨rfl, d, hWd⟩; rw [← HQ0.out]; have hbd : Below W.heap.size W Wd := (by rw [hWd]; exact below_drewN (Below.refl _ _) d); clear hWd)
  go_step3
  go_wp2_with (go_at_call 31; refine (first_c HA.out.sl).mono ?_; rintro e Wd ⟨rfl, d, hWd⟩; rw [← HQ0.out]; have hbd : Below W.heap.size W Wd := (by rw [hWd]; exact below_drewN (Below.refl _ _) d); clear hWd)
  go_loopw [3, 4] (fun v3 v4 wr => ∃ (j a q : Nat) (O : Nat → Prop) (pre : List (Nat × Option Addr × Nat)), pre.length = j ∧ j ≤ (rowsOf bs).length ∧ a = atR bs j ∧ a ≤ N ∧ (rowsOf bs).drop j = rowsOf (bs.drop a) ∧ q = firstN (bs.drop a) ∧ v3 = .int .i64 (a : Int) ∧ v4 = .int .i64 (q : Int) ∧
    J O pre wr ∧ ¬ O p1 ∧ NotIn O A c ∧ Blk wr p1 22 #[.slice A N c] ∧ OwB wr B A N c bs ∧ W.heap.size ≤ wr.heap.size) (fun v3 _ _ => N - (intOf v3).toNat)
  case atStart => exact ⟨0, 0, q0, O, [], rfl, by omega, rfl, by omega, rfl, HQ0.out, rfl, rfl, OwnFrom.calm (HJ.out O) h0 (Calm.of_below hbd), ho1, HO3.out, HB1.out.below hbd HB1.out.lt, HA.out.below hbd, hbd.size⟩
  case round =>
    clear HB1 HA HO3 h0 ho1 d1 hbd
    obtain ⟨j, a, q, O, pre, hpre, hjl, haj, haN, hdrop, hq, rfl, rfl, hj, ho1, hO3, C1, hA, hz⟩ := hrel
    have HO3 := Lib.hid hO3
    have HPRE := Lib.hid hpre
    have HAJ := Lib.hid haj
    have HD := Lib.hid hdrop
    have HC1 := Lib.hid C1
    have HJ0 := Lib.hid hj
    have HA := Lib.hid hA
    have hcap := hA.cap
    have hle := hA.le
    have ha0 : (0 : Int) ≤ (a : Int) := by omega
    have hab : (a : Int) ≤ 1099511627776 := by omega
    have d1 : wr.cell? ⟨p1, 0, none⟩ = some (.slice A N c) := by rw [C1.cell]; rfl
    cases hm : rowLen (bs.drop a) with
    | none =>
      have hq0 : q = 0 := by rw [hq, firstN, hm]
      subst hq0
      have hjn := rows_end hdrop hm hjl
      clear hO3 hpre haj hdrop C1 hj hA hm hq
      go_wp2_with fail
      unfold Exit.noGoto
      go_end0
      exact ⟨⟨_, rfl⟩, .inl ⟨O, pre, by rw [HPRE.out]; exact hjn, HJ0.out⟩⟩
    | some m =>
      have hq2 : q = 2 + m := by rw [hq, firstN, hm]
      obtain ⟨hj1, hrow, hrl, hd1, hfit⟩ := rows_step hdrop hm
      have hqp : (0 : Int) < (q : Int) := by omega
      have hqb : (q : Int) ≤ 1099511627776 := by rw [HLEN.out] at hfit; omega
      have hfN : a + (2 + m) ≤ N := by rw [← HLEN.out]; exact hfit
      obtain ⟨A2, hs2, hsl2⟩ := hA.sl.cutRun (lo := a + 2) (hi := a + q) (by omega) (by omega) ((a : Int) + 2) ((a : Int) + (q : Int)) rfl rfl
      rw [show a + q - (a + 2) = m by omega, ← hrow] at hs2
      rw [show a + q - (a + 2) = m by omega] at hsl2
      have HS2 := Lib.hid hs2
      have HRL := Lib.hid hrl
      have HD1 := Lib.hid hd1
      have HQ2 := Lib.hid hq2
      clear hO3 hpre haj hdrop C1 hj hA hm hq hs2 hrow hrl hd1 hq2
      refine wp_seq_k fun K' hK' => ?_
      have HK' := Lib.hid hK'
      clear hK'
      go_wp2_with fail
      refine HK'.out _ _ ?_
      refine (wpIn_wide (n := 4)).1 ?_
      gi_wp2
      refine ⟨trivial, callsIn_wide.2 ((clone_c HS2.out (Nat.le_refl _) (by omega)).mono ?_)⟩
      rintro e W5 ⟨A5, c5, rfl, ho5, hb5, _⟩
      obtain ⟨gg, hgg, hgw⟩ : ∃ gg, wr.heap.size ≤ gg ∧ ∀ g, wrote A5 c5 = some g → g = gg := by
        rcases Row.wrote_lt ho5 with h1 | ⟨g, _, h1, hg, _⟩
        · exact ⟨wr.heap.size, Nat.le_refl _, fun g e => by rw [h1] at e; cases e⟩
        · exact ⟨g, hg, fun g' e => by rw [h1] at e; cases e; rfl⟩
      have hj5 : J (fun k => O k ∨ k = gg) pre W5 := HJM.out O pre wr W5 gg HJ0.out hb5 hgg
      obtain ⟨fn, tmps, assign, body, hy, hR⟩ := HY.out (fun k => O k ∨ k = gg) pre (j, A5, c5) W5 hj5 ⟨HPRE.out.symm, hj1, by have := Row.base_le ho5 (Nat.le_trans hzW hz); rwa [HRL.out], fun g e => .inr (hgw g e)⟩
      have k5 : Kept O (fun k => O k ∨ k = gg) wr W5 := (Kept.below hb5).gain gg hgg
      rw [encR] at hy
      simp only [HRL.out, ← HAJ.out] at hy
      have HR := Lib.hid hR
      have HO5 := Lib.hid (show ¬ (fun k => O k ∨ k = gg) p1 from fun h => h.elim ho1 (fun e => by have := HC1.out.lt; omega))
      clear hR hj5 hgw ho5
      gi_wp2
      refine HR.out.mono ?_
      rintro e W3 (⟨rfl, O3, hJ3, hk3⟩ | ⟨rfl, _, hJx3⟩)
      · have kk := k5.trans hk3
        have E1 := Lib.hid (kk.blk HC1.out ho1)
        have EA := Lib.hid (OwB.kept HA.out kk HO3.out)
        have EO := Lib.hid (NotIn.kept HA.out kk HO3.out)
        have e1 := kk.far HC1.out.lt ho1
        have EJ := Lib.hid hJ3
        have ez := Nat.le_trans hz kk.size
        have d3 : W3.cell? ⟨p1, 0, none⟩ = some (.slice A N c) := by rw [E1.out.cell]; rfl
        obtain ⟨a', ha'⟩ : ∃ a', a' = a + q := ⟨_, rfl⟩
        have haa : (a : Int) + (q : Int) = (a' : Int) := by rw [ha']; rfl
        have ha'N : a' ≤ N := by have := HQ2.out; omega
        obtain ⟨A4, hs4, hsl4⟩ := EA.out.sl.tailRun (lo := a') ha'N
        obtain ⟨q', hq'⟩ : ∃ q', q' = firstN (bs.drop a') := ⟨_, rfl⟩
        have HS4 := Lib.hid hs4
        have HQ' := Lib.hid hq'
        have HA' := Lib.hid ha'
        clear hJ3 hk3 kk k5 hs4 hq' ha'
        gi_wp2
        refine ⟨trivial, callsIn_wide.2 ((first_c HS4.out).mono ?_)⟩
        rintro e Wd ⟨rfl, d, hWd⟩
        rw [← HQ'.out]
        have hbd : Below W3.heap.size W3 Wd := by rw [hWd]; exact below_drewN (Below.refl _ _) d
        clear hWd
        gi_wp2
        go_wp2_with fail
        have hat : a' = atR bs (j + 1) := by rw [atR_succ hj1, ← HAJ.out, HRL.out, HA'.out, HQ2.out]
        refine ⟨⟨j + 1, a', q', O3, pre ++ [(j, A5, c5)], by rw [List.length_append, HPRE.out]; rfl, by omega, hat, ha'N, ?_, HQ'.out, by go_num, rfl, OwnFrom.calm (HJ.out O3) EJ.out (Calm.of_below hbd), e1, EO.out, E1.out.below hbd E1.out.lt, EA.out.below hbd, Nat.le_trans ez hbd.size⟩, ?_⟩
        · rw [HD1.out, HA'.out, HQ2.out]
        · have := HA'.out; simp [intOf]; omega
      · gi_wp2
        go_wp2_with fail
        unfold Exit.noGoto
        go_end0
        exact ⟨⟨_, rfl⟩, .inr ⟨_, by rw [List.length_append, HPRE.out]; exact hj1, hJx3⟩⟩
end Go.Proofs.Ytkiiobfomnggcaa
