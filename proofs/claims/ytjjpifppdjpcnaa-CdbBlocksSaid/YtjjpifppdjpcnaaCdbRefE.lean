/-
  The reference's Encode of commands (printed by wip/gen_cref2.py).
-/
import Derived.Test.YtjjpifppdjpcnaaCdbRef
namespace Go.Proofs.Ytjjpifppdjpcnaa
open Go.RowKit
set_option linter.unusedVariables false
set_option linter.unusedSimpArgs false
set_option maxRecDepth 100000

def RelNb (base k : Nat) (bs : List UInt8) : Value → World → Prop := fun v w => ∃ A c, v = .tuple #[.slice A k c, .int .i64 0] ∧ OwB w base A k c bs
theorem RelNb.later {base k : Nat} {bs : List UInt8} (v : Value) (w w' : World) (hb : Below w.heap.size w w') (h : RelNb base k bs v w) : RelNb base k bs v w' :=
  let ⟨A, c, e, hs⟩ := h
  ⟨A, c, e, hs.below hb⟩

set_option maxHeartbeats 4000000 in
theorem crefenc_no {w : World} {B : Nat} {A : Option Addr} {m c : Nat} {ds : List UInt8} (kind unit block many op who key new ty : Int) (st : Bool) (hd : SlB w B A m c ds) (hB : B ≤ w.heap.size) (h : ¬ goodC kind unit block many m op who key new ty st) :
    Calls Try.prog 30 #[.agg #[.int .i64 kind, .int .i64 unit, .int .i64 block, .int .i64 many, .slice A m c, .int .i64 op, .int .i64 who, .int .i64 key, .int .i64 new, .int .i64 ty, .bool st]] w fun e w' => e = .returned (.tuple #[.slice none 0 0, .bool false]) ∧ Below w.heap.size w w' := by
  have HS := Lib.hid h
  clear h
  obtain ⟨g1, hg1⟩ : ∃ g, g = w.heap.size := ⟨_, rfl⟩
  obtain ⟨v, hv⟩ : ∃ v, v = w.alloc (.cells #[.int .i64 kind, .int .i64 unit, .int .i64 block, .int .i64 many, .slice A m c, .int .i64 op, .int .i64 who, .int .i64 key, .int .i64 new, .int .i64 ty, .bool st] 56) := ⟨_, rfl⟩
  have b1 : Blk v g1 56 #[.int .i64 kind, .int .i64 unit, .int .i64 block, .int .i64 many, .slice A m c, .int .i64 op, .int .i64 who, .int .i64 key, .int .i64 new, .int .i64 ty, .bool st] := by rw [hv, hg1]; exact Blk.new _ _ _
  have hbv : Below w.heap.size w v := by rw [hv]; exact below_alloc _ _
  have hz := hbv.size
  have hmx := hd.mx
  have hgv := b1.lt
  have HD := Lib.hid (hd.below (hbv.mono hB))
  have HV := Lib.hid hv
  have HG := Lib.hid hg1
  have HB1 := Lib.hid b1
  clear hv hg1 hd b1
  go_enter Try.func30, Try.ntmps30
  go_wp2_with (first
    | ((with_reducible show wpList _ _ _ (Oper.mk (some 10) (Op.load 56 _) _ _ _ _ :: _) _ _); rw [← HV.out, ← HG.out]; refine wpList_load_whole rfl 56 (.tmp 1) rfl g1 rfl #[.int .i64 kind, .int .i64 unit, .int .i64 block, .int .i64 many, .slice A m c, .int .i64 op, .int .i64 who, .int .i64 key, .int .i64 new, .int .i64 ty, .bool st] aggCm rfl _ HB1.out ?_)
    | (go_at_call 57; refine (good_no kind unit block many op who key new ty st hmx HS.out).mono ?_; rintro e w1 ⟨rfl, hb1⟩; have hz1 := hb1.size; have b11 := HB1.out.below hb1 hgv; have hgw1 := b11.lt))
  go_ret2
  exact ⟨rfl, hbv.trans (hb1.mono hz)⟩

set_option maxHeartbeats 4000000 in
theorem crefenc_four {w : World} {B : Nat} {A : Option Addr} {m c : Nat} {ds : List UInt8} (kind unit block many op who key new ty : Int) (st : Bool) (hd : SlB w B A m c ds) (hB : B ≤ w.heap.size) (h : goodC kind unit block many m op who key new ty st) (hk : ¬ kind = 6) (hm : m ≤ 140737488351000) (hwf : ∀ p ∈ cmF kind unit block many op key new ty st, (Lit.int .i64 p.2).wf = true ∧ p.1 ≤ 8) :
    Calls Try.prog 30 #[.agg #[.int .i64 kind, .int .i64 unit, .int .i64 block, .int .i64 many, .slice A m c, .int .i64 op, .int .i64 who, .int .i64 key, .int .i64 new, .int .i64 ty, .bool st]] w fun e w' => ∃ A' N c', e = .returned (.tuple #[.slice A' N c', .bool true]) ∧ OwB w' w.heap.size A' N c' (cmB kind unit block many op key new ty st ds) ∧ Below w.heap.size w w' := by
  have hput := (good_iff.1 h).2
  rw [cmF, if_neg hk] at hput hwf
  have hcm : cmB kind unit block many op key new ty st ds = fbytes (fl4 kind unit block many) ++ ds := by rw [cmB, cmF, if_neg hk]
  have HCM := Lib.hid hcm
  have HP := Lib.hid hput
  have HWX := Lib.hid hwf
  have HS := Lib.hid h
  have hk6 : (kind == 6) = false := by simpa using hk
  clear h hput hwf hk hcm
  obtain ⟨g1, hg1⟩ : ∃ g, g = w.heap.size := ⟨_, rfl⟩
  obtain ⟨v, hv⟩ : ∃ v, v = w.alloc (.cells #[.int .i64 kind, .int .i64 unit, .int .i64 block, .int .i64 many, .slice A m c, .int .i64 op, .int .i64 who, .int .i64 key, .int .i64 new, .int .i64 ty, .bool st] 56) := ⟨_, rfl⟩
  have b1 : Blk v g1 56 #[.int .i64 kind, .int .i64 unit, .int .i64 block, .int .i64 many, .slice A m c, .int .i64 op, .int .i64 who, .int .i64 key, .int .i64 new, .int .i64 ty, .bool st] := by rw [hv, hg1]; exact Blk.new _ _ _
  have hbv : Below w.heap.size w v := by rw [hv]; exact below_alloc _ _
  have hz := hbv.size
  have hmx := hd.mx
  have hgv := b1.lt
  have HD := Lib.hid (hd.below (hbv.mono hB))
  have HV := Lib.hid hv
  have HG := Lib.hid hg1
  have HB1 := Lib.hid b1
  clear hv hg1 hd b1
  go_enter Try.func30, Try.ntmps30
  go_wp2_with (first
    | ((with_reducible show wpList _ _ _ (Oper.mk (some 10) (Op.load 56 _) _ _ _ _ :: _) _ _); rw [← HV.out, ← HG.out]; refine wpList_load_whole rfl 56 (.tmp 1) rfl g1 rfl #[.int .i64 kind, .int .i64 unit, .int .i64 block, .int .i64 many, .slice A m c, .int .i64 op, .int .i64 who, .int .i64 key, .int .i64 new, .int .i64 ty, .bool st] aggCm rfl _ HB1.out ?_)
    | (go_at_call 57; refine (good_yes kind unit block many op who key new ty st hmx HS.out).mono ?_; rintro e w1 ⟨rfl, hb1⟩; have hz1 := hb1.size; have b11 := HB1.out.below hb1 hgv; have hgw1 := b11.lt; have k0 : w1.cell? ⟨g1, 0, none⟩ = some (.int .i64 kind) := (by rw [b11.cell]; rfl); have k1 : w1.cell? ⟨g1, 1, none⟩ = some (.int .i64 unit) := (by rw [b11.cell]; rfl); have k2 : w1.cell? ⟨g1, 2, none⟩ = some (.int .i64 block) := (by rw [b11.cell]; rfl); have k3 : w1.cell? ⟨g1, 3, none⟩ = some (.int .i64 many) := (by rw [b11.cell]; rfl); have k5 : w1.cell? ⟨g1, 5, none⟩ = some (.int .i64 op) := (by rw [b11.cell]; rfl); have k7 : w1.cell? ⟨g1, 7, none⟩ = some (.int .i64 key) := (by rw [b11.cell]; rfl); have k8 : w1.cell? ⟨g1, 8, none⟩ = some (.int .i64 new) := (by rw [b11.cell]; rfl); have k9 : w1.cell? ⟨g1, 9, none⟩ = some (.int .i64 ty) := (by rw [b11.cell]; rfl); have k10 : w1.cell? ⟨g1, 10, none⟩ = some (.bool st) := (by rw [b11.cell]; rfl)))
  obtain ⟨w2, hw2⟩ : ∃ w2, w2 = w1.alloc (.cells #[.int .i64 1, .int .i64 kind, .int .i64 1, .int .i64 unit, .int .i64 2, .int .i64 block, .int .i64 2, .int .i64 many] 3) := ⟨_, rfl⟩
  rw [← hw2]
  have hb2 : Below w1.heap.size w1 w2 := by rw [hw2]; exact below_alloc _ _
  have bl2 : Blk w2 w1.heap.size 3 #[.int .i64 1, .int .i64 kind, .int .i64 1, .int .i64 unit, .int .i64 2, .int .i64 block, .int .i64 2, .int .i64 many] := by rw [hw2]; exact Blk.new _ _ _
  have HWL := Lib.hid (hb1.trans (hb2.mono hz1))
  have HBL := Lib.hid bl2.lt
  have HCL := Lib.hid (fun (t : Nat) (v : Value) (hv : (fcells (fl4 kind unit block many))[t]? = some v) => show w2.cell? ⟨w1.heap.size, t, none⟩ = some v by rw [bl2.cell]; simpa [fcells, fl4] using hv)
  clear hw2 bl2
  go_wp2_with fail
  go_loopw [6, 7] (fun v6 v7 wr => ∃ (j S : Nat) (Ao : Option Addr) (co : Nat), j ≤ 4 ∧ v7 = .int .i64 ((2 * j : Nat) : Int) ∧ v6 = .slice Ao S co ∧ S = fsize ((fl4 kind unit block many).take j) ∧ S ≤ 8 * j ∧ OwB wr w2.heap.size Ao S co (fbytes ((fl4 kind unit block many).take j)) ∧ Below w2.heap.size w2 wr) (fun _ v _ => 8 - (intOf v).toNat)
  case atStart => exact ⟨0, 0, none, 0, by omega, rfl, rfl, rfl, by omega, OwB.nil _ _ _, Below.refl _ _⟩
  case round =>
    obtain ⟨j, S, Ao, co, hj, rfl, rfl, hS, hS8, hown, hw⟩ := hrel
    have hzw := hw.size
    obtain ⟨J, hJ⟩ : ∃ J, J = 2 * j := ⟨_, rfl⟩
    rw [← hJ]
    have HOWN := Lib.hid hown
    have HSS := Lib.hid hS
    have HW := Lib.hid hw
    clear hown hS hw
    by_cases hlt : j < 4
    · have hii : (J : Int) < 8 := by omega
      have hi0 : (0 : Int) ≤ (J : Int) := by omega
      obtain ⟨p, hp⟩ : ∃ p, (fl4 kind unit block many)[j]? = some p := ⟨_, List.getElem?_eq_getElem (by exact hlt)⟩
      have htk : (fl4 kind unit block many).take (j + 1) = (fl4 kind unit block many).take j ++ [p] := by rw [List.take_add_one, hp]; rfl
      have hfb := fbytes_snoc ((fl4 kind unit block many).take j) p
      have hfs := fsize_snoc ((fl4 kind unit block many).take j) p
      rw [← htk] at hfb hfs
      have hmem := List.mem_of_getElem? hp
      have hput := HP.out p hmem
      obtain ⟨hwx, hk8⟩ := HWX.out p hmem
      have hflat : ∀ t v, [Value.int .i64 (p.1 : Int), .int .i64 p.2][t]? = some v → (fcells (fl4 kind unit block many))[j * 2 + t]? = some v := fun t v hv => by
        have ht2 : t < 2 := (List.getElem?_eq_some_iff.1 hv).1
        rw [fcells, flatten_get 2 _ (fun r hr => by obtain ⟨f', _, rfl⟩ := List.mem_map.1 hr; rfl) j t [Value.int .i64 (p.1 : Int), .int .i64 p.2] (by rw [List.getElem?_map, hp]; rfl) ht2]
        exact hv
      have q0 : wr.cell? ⟨w1.heap.size, J, none⟩ = some (.int .i64 (p.1 : Int)) := (HW.out.cell (p := ⟨w1.heap.size, J, none⟩) HBL.out).trans (HCL.out J _ (by rw [hJ, Nat.mul_comm]; exact hflat 0 _ rfl))
      obtain ⟨J1, hJ1⟩ : ∃ J1, J1 = J + 1 := ⟨_, rfl⟩
      have q1 : wr.cell? ⟨w1.heap.size, J1, none⟩ = some (.int .i64 p.2) := (HW.out.cell (p := ⟨w1.heap.size, J1, none⟩) HBL.out).trans (HCL.out J1 _ (by rw [hJ1, hJ, Nat.mul_comm]; exact hflat 1 _ rfl))
      have hJ1i : (J : Int) + 1 = (J1 : Int) := by omega
      have hJ1l : (J1 : Int) < 8 := by omega
      have hJ10 : (0 : Int) ≤ (J1 : Int) := by omega
      obtain ⟨k, x⟩ := p
      simp only at q0 q1 hput hwx hk8 hfb hfs
      have HQ0 := Lib.hid q0
      have HQ1 := Lib.hid q1
      have HPUT := Lib.hid hput
      have HX := Lib.hid hwx
      have HFB := Lib.hid hfb
      have HFS := Lib.hid hfs
      have hblr : w1.heap.size < wr.heap.size := Nat.lt_of_lt_of_le HBL.out hzw
      have HJ := Lib.hid hJ
      clear q0 q1 hput hwx hfb hfs hflat hmem htk hp hJ hJ1
      go_wp2_with fail
      refine wp_region_rel (fun W W' => Below W.heap.size W W') (fun W => Below wr.heap.size wr W)
        [Det (.slice (some ⟨w1.heap.size, 0, none⟩) 8 (8)), Det (.int .i64 (J : Int)), Det (.pointer (some ⟨w1.heap.size, J, none⟩)), Det (.int .i64 (k : Int)), Det (.slice (some ⟨w1.heap.size, 0, none⟩) 8 (8)), Det (.int .i64 (J : Int)), Det (.int .i64 (J1 : Int)), Det (.pointer (some ⟨w1.heap.size, J1, none⟩)), Det (.int .i64 x), RelNb wr.heap.size k (numB x k k), RelNb wr.heap.size k (numB x k k), RelO wr.heap.size k (numB x k k), Det (.int .i64 0), RelO wr.heap.size k (numB x k k), Det (.int .i64 0)]
        [[], [], [(0, some 51), (1, some 52)], [(2, some 53)], [], [], [(5, some 56)], [(4, some 55), (6, some 57)], [(7, some 58)], [(3, some 54), (8, some 59)], [(9, some 60)], [(10, some 50)], [(10, some 50)], [(11, some 61)], [(12, some 62)]]
        [[], [], [0, 1], [0, 1, 2], [], [], [5], [4, 5, 6], [4, 5, 6, 7], [0, 1, 2, 3, 4, 5, 6, 7, 8], [0, 1, 2, 3, 4, 5, 6, 7, 8, 9], [0, 1, 2, 3, 4, 5, 6, 7, 8, 9, 10], [0, 1, 2, 3, 4, 5, 6, 7, 8, 9, 10], [0, 1, 2, 3, 4, 5, 6, 7, 8, 9, 10, 11], [0, 1, 2, 3, 4, 5, 6, 7, 8, 9, 10, 11, 12, 13]]
        [(0, some 51), (1, some 52), (2, some 53), (3, some 54), (4, some 55), (5, some 56), (6, some 57), (7, some 58), (8, some 59), (9, some 60), (10, some 50), (11, some 61), (12, some 62), (13, some 8), (14, some 9)] (by kernel_rfl) (by kernel_rfl) (fun W W' h1 h2 => h1.trans (h2.mono h1.size)) ((Below.refl _ _).drew) ?_ ?_ ?_
      · exact (AllMono.cons Det.later (AllMono.cons Det.later (AllMono.cons Det.later (AllMono.cons Det.later (AllMono.cons Det.later (AllMono.cons Det.later (AllMono.cons Det.later (AllMono.cons Det.later (AllMono.cons Det.later (AllMono.cons RelNb.later (AllMono.cons RelNb.later (AllMono.cons RelO.later (AllMono.cons Det.later (AllMono.cons RelO.later (AllMono.cons Det.later AllMono.nil)))))))))))))))
      · refine AllOb.cons ?_ (AllOb.cons ?_ (AllOb.cons ?_ (AllOb.cons ?_ (AllOb.cons ?_ (AllOb.cons ?_ (AllOb.cons ?_ (AllOb.cons ?_ (AllOb.cons ?_ (AllOb.cons ?_ (AllOb.cons ?_ (AllOb.cons ?_ (AllOb.cons ?_ (AllOb.cons ?_ (AllOb.cons ?_ (AllOb.nil)))))))))))))))
        · intro uF W hC' hU aF hF
          have hC : Below wr.heap.size wr W := hC'
          clear hC'
          simp only [puts] at hF
          subst hF
          go_wp2_with (fail)
          exact ⟨rfl, rfl, (Below.refl _ _), rfl⟩
        · intro uF W hC' hU aF hF
          have hC : Below wr.heap.size wr W := hC'
          clear hC'
          simp only [puts] at hF
          subst hF
          go_wp2_with (fail)
          exact ⟨rfl, rfl, (Below.refl _ _), rfl⟩
        · intro uF W hC' hU aF hF
          have hC : Below wr.heap.size wr W := hC'
          clear hC'
          have h51 : (Det (.slice (some ⟨w1.heap.size, 0, none⟩) 8 (8))) (uF 0) W := hU.1
          have h52 : (Det (.int .i64 (J : Int))) (uF 1) W := hU.2.1
          clear hU
          simp only [puts, Act.put, List.setIfInBounds_toArray, List.set_cons_zero, List.set_cons_succ] at hF
          generalize uF 0 = x51 at h51 hF
          generalize uF 1 = x52 at h52 hF
          obtain rfl : x51 = (.slice (some ⟨w1.heap.size, 0, none⟩) 8 (8)) := h51
          obtain rfl : x52 = (.int .i64 (J : Int)) := h52
          subst hF
          go_wp2_with (fail)
          exact ⟨rfl, rfl, (Below.refl _ _), rfl⟩
        · intro uF W hC' hU aF hF
          have hC : Below wr.heap.size wr W := hC'
          clear hC'
          have h53 : (Det (.pointer (some ⟨w1.heap.size, J, none⟩))) (uF 2) W := hU.1
          clear hU
          simp only [puts, Act.put, List.setIfInBounds_toArray, List.set_cons_zero, List.set_cons_succ] at hF
          generalize uF 2 = x53 at h53 hF
          obtain rfl : x53 = (.pointer (some ⟨w1.heap.size, J, none⟩)) := h53
          subst hF
          have q := (hC.cell (p := ⟨w1.heap.size, J, none⟩) hblr).trans HQ0.out
          go_wp2_with (fail)
          exact ⟨rfl, rfl, (Below.refl _ _), rfl⟩
        · intro uF W hC' hU aF hF
          have hC : Below wr.heap.size wr W := hC'
          clear hC'
          simp only [puts] at hF
          subst hF
          go_wp2_with (fail)
          exact ⟨rfl, rfl, (Below.refl _ _), rfl⟩
        · intro uF W hC' hU aF hF
          have hC : Below wr.heap.size wr W := hC'
          clear hC'
          simp only [puts] at hF
          subst hF
          go_wp2_with (fail)
          exact ⟨rfl, rfl, (Below.refl _ _), rfl⟩
        · intro uF W hC' hU aF hF
          have hC : Below wr.heap.size wr W := hC'
          clear hC'
          have h56 : (Det (.int .i64 (J : Int))) (uF 5) W := hU.1
          clear hU
          simp only [puts, Act.put, List.setIfInBounds_toArray, List.set_cons_zero, List.set_cons_succ] at hF
          generalize uF 5 = x56 at h56 hF
          obtain rfl : x56 = (.int .i64 (J : Int)) := h56
          subst hF
          go_wp2_with (fail)
          exact ⟨rfl, rfl, (Below.refl _ _), rfl⟩
        · intro uF W hC' hU aF hF
          have hC : Below wr.heap.size wr W := hC'
          clear hC'
          have h55 : (Det (.slice (some ⟨w1.heap.size, 0, none⟩) 8 (8))) (uF 4) W := hU.1
          have h57 : (Det (.int .i64 (J1 : Int))) (uF 6) W := hU.2.1
          clear hU
          simp only [puts, Act.put, List.setIfInBounds_toArray, List.set_cons_zero, List.set_cons_succ] at hF
          generalize uF 4 = x55 at h55 hF
          generalize uF 6 = x57 at h57 hF
          obtain rfl : x55 = (.slice (some ⟨w1.heap.size, 0, none⟩) 8 (8)) := h55
          obtain rfl : x57 = (.int .i64 (J1 : Int)) := h57
          subst hF
          go_wp2_with (fail)
          exact ⟨rfl, rfl, (Below.refl _ _), rfl⟩
        · intro uF W hC' hU aF hF
          have hC : Below wr.heap.size wr W := hC'
          clear hC'
          have h58 : (Det (.pointer (some ⟨w1.heap.size, J1, none⟩))) (uF 7) W := hU.1
          clear hU
          simp only [puts, Act.put, List.setIfInBounds_toArray, List.set_cons_zero, List.set_cons_succ] at hF
          generalize uF 7 = x58 at h58 hF
          obtain rfl : x58 = (.pointer (some ⟨w1.heap.size, J1, none⟩)) := h58
          subst hF
          have q := (hC.cell (p := ⟨w1.heap.size, J1, none⟩) hblr).trans HQ1.out
          go_wp2_with (fail)
          exact ⟨rfl, rfl, (Below.refl _ _), rfl⟩
        · intro uF W hC' hU aF hF
          have hC : Below wr.heap.size wr W := hC'
          clear hC'
          have h54 : (Det (.int .i64 (k : Int))) (uF 3) W := hU.1
          have h59 : (Det (.int .i64 x)) (uF 8) W := hU.2.1
          clear hU
          simp only [puts, Act.put, List.setIfInBounds_toArray, List.set_cons_zero, List.set_cons_succ] at hF
          generalize uF 3 = x54 at h54 hF
          generalize uF 8 = x59 at h59 hF
          obtain rfl : x54 = (.int .i64 (k : Int)) := h54
          obtain rfl : x59 = (.int .i64 x) := h59
          subst hF
          go_wp2_with ((go_at_call 42; refine (number_ok (k := k) x HX.out HPUT.out).mono ?_; rintro e W1 ⟨A9, c9, rfl, h9, hb⟩))
          exact ⟨rfl, rfl, hb, ⟨_, _, rfl, Row.base_le h9 hC.size⟩⟩
        · intro uF W hC' hU aF hF
          have hC : Below wr.heap.size wr W := hC'
          clear hC'
          have h60 : (RelNb wr.heap.size k (numB x k k)) (uF 9) W := hU.1
          clear hU
          simp only [puts, Act.put, List.setIfInBounds_toArray, List.set_cons_zero, List.set_cons_succ] at hF
          generalize uF 9 = x60 at h60 hF
          subst hF
          go_wp2_with (fail)
          exact ⟨rfl, rfl, (Below.refl _ _), h60⟩
        · intro uF W hC' hU aF hF
          have hC : Below wr.heap.size wr W := hC'
          clear hC'
          have h50 : (RelNb wr.heap.size k (numB x k k)) (uF 10) W := hU.1
          clear hU
          simp only [puts, Act.put, List.setIfInBounds_toArray, List.set_cons_zero, List.set_cons_succ] at hF
          generalize uF 10 = x50 at h50 hF
          obtain ⟨A50, c50, rfl, s50⟩ := h50
          subst hF
          go_wp2_with (fail)
          exact ⟨rfl, rfl, (Below.refl _ _), ⟨_, _, rfl, s50⟩⟩
        · intro uF W hC' hU aF hF
          have hC : Below wr.heap.size wr W := hC'
          clear hC'
          have h50 : (RelNb wr.heap.size k (numB x k k)) (uF 10) W := hU.1
          clear hU
          simp only [puts, Act.put, List.setIfInBounds_toArray, List.set_cons_zero, List.set_cons_succ] at hF
          generalize uF 10 = x50 at h50 hF
          obtain ⟨A50, c50, rfl, s50⟩ := h50
          subst hF
          go_wp2_with (fail)
          exact ⟨rfl, rfl, (Below.refl _ _), rfl⟩
        · intro uF W hC' hU aF hF
          have hC : Below wr.heap.size wr W := hC'
          clear hC'
          have h61 : (RelO wr.heap.size k (numB x k k)) (uF 11) W := hU.1
          clear hU
          simp only [puts, Act.put, List.setIfInBounds_toArray, List.set_cons_zero, List.set_cons_succ] at hF
          generalize uF 11 = x61 at h61 hF
          subst hF
          go_wp2_with (fail)
          exact ⟨rfl, rfl, (Below.refl _ _), h61⟩
        · intro uF W hC' hU aF hF
          have hC : Below wr.heap.size wr W := hC'
          clear hC'
          have h62 : (Det (.int .i64 0)) (uF 12) W := hU.1
          clear hU
          simp only [puts, Act.put, List.setIfInBounds_toArray, List.set_cons_zero, List.set_cons_succ] at hF
          generalize uF 12 = x62 at h62 hF
          obtain rfl : x62 = (.int .i64 0) := h62
          subst hF
          go_wp2_with (fail)
          exact ⟨rfl, rfl, (Below.refl _ _), rfl⟩
      intro uF w5 hC' hU aF hF
      have hCw5 : Below wr.heap.size wr w5 := hC'
      clear hC'
      have h8 : (RelO wr.heap.size k (numB x k k)) (uF 13) w5 := hU.2.2.2.2.2.2.2.2.2.2.2.2.2.1
      clear hU
      simp only [puts, Act.put, List.setIfInBounds_toArray, List.set_cons_zero, List.set_cons_succ] at hF
      generalize uF 0 = x51 at hF
      generalize uF 1 = x52 at hF
      generalize uF 2 = x53 at hF
      generalize uF 3 = x54 at hF
      generalize uF 4 = x55 at hF
      generalize uF 5 = x56 at hF
      generalize uF 6 = x57 at hF
      generalize uF 7 = x58 at hF
      generalize uF 8 = x59 at hF
      generalize uF 9 = x60 at hF
      generalize uF 10 = x50 at hF
      generalize uF 11 = x61 at hF
      generalize uF 12 = x62 at hF
      generalize uF 13 = x8 at h8 hF
      generalize uF 14 = x9 at hF
      obtain ⟨A8, c8, rfl, s8⟩ := h8
      subst hF
      have hw5 := HW.out.trans (hCw5.mono hzw)
      have hz5 := hw5.size
      have ho5 := HOWN.out.below hCw5
      have hv5 := HWL.out.trans (hw5.mono HWL.out.size)
      have hcap5 := OwB.cap ho5
      go_wp2_with (at_builtin; refine wpList_append8 rfl (.tmp 63) (.tmp 64) rfl rfl ho5 rfl s8.sl (by omega) hz5 (S + k) rfl ?_; intro A6 c6 w6 h6 q6)
      have hw6 : Below w2.heap.size w2 w6 := q6.below ho5 hw5 (Nat.le_refl _) hz5
      exact ⟨⟨j + 1, S + k, A6, c6, by omega, by have := HJ.out; go_num, rfl, by rw [HFS.out, ← HSS.out], by omega, by rw [HFB.out]; exact h6, hw6⟩, by have := HJ.out; simp [intOf]; omega⟩
    · obtain rfl : j = 4 := by omega
      obtain rfl : J = 8 := by omega
      have hown := HOWN.out
      have hS := HSS.out
      rw [show (fl4 kind unit block many).take 4 = fl4 kind unit block many from List.take_of_length_le (Nat.le_refl _)] at hown hS
      rw [show fsize (fl4 kind unit block many) = 6 from rfl] at hS
      subst hS
      have hwv := HWL.out.trans (HW.out.mono HWL.out.size)
      have hzv := hwv.size
      have d4 : wr.cell? ⟨g1, 4, none⟩ = some (.slice A m c) := by rw [(HB1.out.below hwv hgv).cell]; rfl
      have hd3 := HD.out.below (hwv.mono (Nat.le_trans hB hz))
      have hcapn := OwB.cap hown
      have ho3' := Row.base_le hown (b' := v.heap.size) HWL.out.size
      go_wp2_with (at_builtin; refine wpList_append8 rfl (.tmp 66) (.tmp 68) rfl rfl ho3' rfl hd3 (by omega) hzv (6 + m) rfl ?_; intro A7 c7 w7 h7 q7; have hb7 := q7.below ho3' hwv (Nat.le_refl _) hzv)
      go_ret2
      exact ⟨A7, _, c7, rfl, by rw [HCM.out]; exact Row.base_le h7 hz, hbv.trans (hb7.mono hz)⟩

theorem row_cell {w : World} {base n c g t : Nat} {e : TypeId} {xs : List Value} {v : Value} (h : Row w base e 1 (some ⟨g, 0, none⟩) n c xs) (hc : 0 < c) (hv : xs[t]? = some v) : w.cell? ⟨g, t, none⟩ = some v := by
  obtain ⟨b, off, e, _, hj⟩ := (Row.sl h).at_ hc
  simp only [Option.some.injEq, Addr.mk.injEq, and_true] at e
  obtain ⟨rfl, rfl⟩ := e
  simpa using hj t v hv

set_option maxHeartbeats 4000000 in
theorem crefenc_six_f {w : World} {B : Nat} {A : Option Addr} {m c : Nat} {ds : List UInt8} (unit block many op who key new ty : Int) (hd : SlB w B A m c ds) (hB : B ≤ w.heap.size) (h : goodC 6 unit block many m op who key new ty false) (hm : m ≤ 140737488351000) (hwf : ∀ p ∈ cmF 6 unit block many op key new ty false, (Lit.int .i64 p.2).wf = true ∧ p.1 ≤ 8) :
    Calls Try.prog 30 #[.agg #[.int .i64 6, .int .i64 unit, .int .i64 block, .int .i64 many, .slice A m c, .int .i64 op, .int .i64 who, .int .i64 key, .int .i64 new, .int .i64 ty, .bool false]] w fun e w' => ∃ A' N c', e = .returned (.tuple #[.slice A' N c', .bool true]) ∧ OwB w' w.heap.size A' N c' (cmB 6 unit block many op key new ty false ds) ∧ Below w.heap.size w w' := by
  have hput := (good_iff.1 h).2
  rw [cmF, if_pos rfl] at hput hwf
  have hcm : cmB 6 unit block many op key new ty false ds = fbytes (fl4 6 unit block many ++ fl5 op key new ty false) ++ ds := by rw [cmB, cmF, if_pos rfl]
  have HCM := Lib.hid hcm
  have HP := Lib.hid hput
  have HWX := Lib.hid hwf
  have HS := Lib.hid h
  clear h hput hwf hcm
  obtain ⟨i0, hI, hy0, hy1, hy2⟩ := info_parts int_info
  obtain ⟨g1, hg1⟩ : ∃ g, g = w.heap.size := ⟨_, rfl⟩
  obtain ⟨v, hv⟩ : ∃ v, v = w.alloc (.cells #[.int .i64 6, .int .i64 unit, .int .i64 block, .int .i64 many, .slice A m c, .int .i64 op, .int .i64 who, .int .i64 key, .int .i64 new, .int .i64 ty, .bool false] 56) := ⟨_, rfl⟩
  have b1 : Blk v g1 56 #[.int .i64 6, .int .i64 unit, .int .i64 block, .int .i64 many, .slice A m c, .int .i64 op, .int .i64 who, .int .i64 key, .int .i64 new, .int .i64 ty, .bool false] := by rw [hv, hg1]; exact Blk.new _ _ _
  have hbv : Below w.heap.size w v := by rw [hv]; exact below_alloc _ _
  have hz := hbv.size
  have hmx := hd.mx
  have hgv := b1.lt
  have HD := Lib.hid (hd.below (hbv.mono hB))
  have HV := Lib.hid hv
  have HG := Lib.hid hg1
  have HB1 := Lib.hid b1
  clear hv hg1 hd b1
  go_enter Try.func30, Try.ntmps30
  go_wp2_with (first
    | ((with_reducible show wpList _ _ _ (Oper.mk (some 10) (Op.load 56 _) _ _ _ _ :: _) _ _); rw [← HV.out, ← HG.out]; refine wpList_load_whole rfl 56 (.tmp 1) rfl g1 rfl #[.int .i64 6, .int .i64 unit, .int .i64 block, .int .i64 many, .slice A m c, .int .i64 op, .int .i64 who, .int .i64 key, .int .i64 new, .int .i64 ty, .bool false] aggCm rfl _ HB1.out ?_)
    | (go_at_call 57; refine (good_yes 6 unit block many op who key new ty false hmx HS.out).mono ?_; rintro e w1 ⟨rfl, hb1⟩; have hz1 := hb1.size; have b11 := HB1.out.below hb1 hgv; have hgw1 := b11.lt; have k0 : w1.cell? ⟨g1, 0, none⟩ = some (.int .i64 6) := (by rw [b11.cell]; rfl); have k1 : w1.cell? ⟨g1, 1, none⟩ = some (.int .i64 unit) := (by rw [b11.cell]; rfl); have k2 : w1.cell? ⟨g1, 2, none⟩ = some (.int .i64 block) := (by rw [b11.cell]; rfl); have k3 : w1.cell? ⟨g1, 3, none⟩ = some (.int .i64 many) := (by rw [b11.cell]; rfl); have k5 : w1.cell? ⟨g1, 5, none⟩ = some (.int .i64 op) := (by rw [b11.cell]; rfl); have k7 : w1.cell? ⟨g1, 7, none⟩ = some (.int .i64 key) := (by rw [b11.cell]; rfl); have k8 : w1.cell? ⟨g1, 8, none⟩ = some (.int .i64 new) := (by rw [b11.cell]; rfl); have k9 : w1.cell? ⟨g1, 9, none⟩ = some (.int .i64 ty) := (by rw [b11.cell]; rfl); have k10 : w1.cell? ⟨g1, 10, none⟩ = some (.bool false) := (by rw [b11.cell]; rfl))
    | (at_builtin; refine wpList_append_row rfl (.tmp 28) (.tmp 42) _ rfl Try.underlying88 hI hy0 hy1 hy2 rfl rfl (Row.alloc (Row.new w1 w1.heap.size 3 1 #[.int .i64 1, .int .i64 6, .int .i64 1, .int .i64 unit, .int .i64 2, .int .i64 block, .int .i64 2, .int .i64 many] 8 8 (Nat.le_refl _) (Nat.le_refl _) (by simp [maxLen]) rfl) (.cells #[.int .i64 1, .int .i64 op, .int .i64 8, .int .i64 key, .int .i64 8, .int .i64 new, .int .i64 1, .int .i64 ty, .int .i64 1, .int .i64 0] 3)) rfl (B := w1.heap.size + 1 + 1) (A2 := some ⟨w1.heap.size + 1, 0, none⟩) (m := 10) (c2 := 10) (news := #[.int .i64 1, .int .i64 op, .int .i64 8, .int .i64 key, .int .i64 8, .int .i64 new, .int .i64 1, .int .i64 ty, .int .i64 1, .int .i64 0].toList) ⟨rfl, Nat.le_refl _, by simp [maxLen], fun _ => ⟨w1.heap.size + 1, 0, rfl, Nat.lt_succ_self _, fun j u hu => by have hb := Blk.new (w1.alloc (.cells #[.int .i64 1, .int .i64 6, .int .i64 1, .int .i64 unit, .int .i64 2, .int .i64 block, .int .i64 2, .int .i64 many] 3)) 3 #[.int .i64 1, .int .i64 op, .int .i64 8, .int .i64 key, .int .i64 8, .int .i64 new, .int .i64 1, .int .i64 ty, .int .i64 1, .int .i64 0]; rw [World.size_alloc] at hb; rw [hb.cell, Nat.zero_add]; simpa using hu⟩⟩ (by simp [Value.oneCell']) (by omega) (by simp [maxLen]) (by simp; omega) ?_; intro A9 c9 w2 h9 q9; have hal2 := ((Below.refl w1.heap.size w1).alloc (Nat.le_refl _) (.cells #[.int .i64 1, .int .i64 6, .int .i64 1, .int .i64 unit, .int .i64 2, .int .i64 block, .int .i64 2, .int .i64 many] 3)).alloc (by simp) (.cells #[.int .i64 1, .int .i64 op, .int .i64 8, .int .i64 key, .int .i64 8, .int .i64 new, .int .i64 1, .int .i64 ty, .int .i64 1, .int .i64 0] 3); have hb2 : Below w1.heap.size w1 w2 := q9.below (Row.alloc (Row.new w1 w1.heap.size 3 1 #[.int .i64 1, .int .i64 6, .int .i64 1, .int .i64 unit, .int .i64 2, .int .i64 block, .int .i64 2, .int .i64 many] 8 8 (Nat.le_refl _) (Nat.le_refl _) (by simp [maxLen]) rfl) (.cells #[.int .i64 1, .int .i64 op, .int .i64 8, .int .i64 key, .int .i64 8, .int .i64 new, .int .i64 1, .int .i64 ty, .int .i64 1, .int .i64 0] 3)) hal2 (Nat.le_refl _) (by simp; omega)))
  obtain ⟨b9, cur9, e9, _, hb9, _⟩ := h9.2.2.2 (by have := h9.2.1; omega)
  subst e9
  have hc9 : 18 ≤ c9 := h9.2.1
  have hc9m : c9 ≤ 9223372036854775807 := h9.2.2.1
  have HWL := Lib.hid (hb1.trans (hb2.mono hz1))
  have HBL := Lib.hid hb9.lt
  have HCL := Lib.hid (fun (t : Nat) (v : Value) (hv : (fcells (fl4 6 unit block many ++ fl5 op key new ty false))[t]? = some v) => row_cell h9 (by omega) (show (#[.int .i64 1, .int .i64 6, .int .i64 1, .int .i64 unit, .int .i64 2, .int .i64 block, .int .i64 2, .int .i64 many].toList ++ #[.int .i64 1, .int .i64 op, .int .i64 8, .int .i64 key, .int .i64 8, .int .i64 new, .int .i64 1, .int .i64 ty, .int .i64 1, .int .i64 0].toList)[t]? = some v by simpa [fcells, fl4, fl5, stI] using hv))
  clear h9 hb9 q9 hal2
  go_wp2_with fail
  go_loopw [6, 7] (fun v6 v7 wr => ∃ (j S : Nat) (Ao : Option Addr) (co : Nat), j ≤ 9 ∧ v7 = .int .i64 ((2 * j : Nat) : Int) ∧ v6 = .slice Ao S co ∧ S = fsize ((fl4 6 unit block many ++ fl5 op key new ty false).take j) ∧ S ≤ 8 * j ∧ OwB wr w2.heap.size Ao S co (fbytes ((fl4 6 unit block many ++ fl5 op key new ty false).take j)) ∧ Below w2.heap.size w2 wr) (fun _ v _ => 18 - (intOf v).toNat)
  case atStart => exact ⟨0, 0, none, 0, by omega, rfl, rfl, rfl, by omega, OwB.nil _ _ _, Below.refl _ _⟩
  case round =>
    obtain ⟨j, S, Ao, co, hj, rfl, rfl, hS, hS8, hown, hw⟩ := hrel
    have hzw := hw.size
    obtain ⟨J, hJ⟩ : ∃ J, J = 2 * j := ⟨_, rfl⟩
    rw [← hJ]
    have HOWN := Lib.hid hown
    have HSS := Lib.hid hS
    have HW := Lib.hid hw
    clear hown hS hw
    by_cases hlt : j < 9
    · have hii : (J : Int) < 18 := by omega
      have hi0 : (0 : Int) ≤ (J : Int) := by omega
      obtain ⟨p, hp⟩ : ∃ p, (fl4 6 unit block many ++ fl5 op key new ty false)[j]? = some p := ⟨_, List.getElem?_eq_getElem (by exact hlt)⟩
      have htk : (fl4 6 unit block many ++ fl5 op key new ty false).take (j + 1) = (fl4 6 unit block many ++ fl5 op key new ty false).take j ++ [p] := by rw [List.take_add_one, hp]; rfl
      have hfb := fbytes_snoc ((fl4 6 unit block many ++ fl5 op key new ty false).take j) p
      have hfs := fsize_snoc ((fl4 6 unit block many ++ fl5 op key new ty false).take j) p
      rw [← htk] at hfb hfs
      have hmem := List.mem_of_getElem? hp
      have hput := HP.out p hmem
      obtain ⟨hwx, hk8⟩ := HWX.out p hmem
      have hflat : ∀ t v, [Value.int .i64 (p.1 : Int), .int .i64 p.2][t]? = some v → (fcells (fl4 6 unit block many ++ fl5 op key new ty false))[j * 2 + t]? = some v := fun t v hv => by
        have ht2 : t < 2 := (List.getElem?_eq_some_iff.1 hv).1
        rw [fcells, flatten_get 2 _ (fun r hr => by obtain ⟨f', _, rfl⟩ := List.mem_map.1 hr; rfl) j t [Value.int .i64 (p.1 : Int), .int .i64 p.2] (by rw [List.getElem?_map, hp]; rfl) ht2]
        exact hv
      have q0 : wr.cell? ⟨b9, J, none⟩ = some (.int .i64 (p.1 : Int)) := (HW.out.cell (p := ⟨b9, J, none⟩) HBL.out).trans (HCL.out J _ (by rw [hJ, Nat.mul_comm]; exact hflat 0 _ rfl))
      obtain ⟨J1, hJ1⟩ : ∃ J1, J1 = J + 1 := ⟨_, rfl⟩
      have q1 : wr.cell? ⟨b9, J1, none⟩ = some (.int .i64 p.2) := (HW.out.cell (p := ⟨b9, J1, none⟩) HBL.out).trans (HCL.out J1 _ (by rw [hJ1, hJ, Nat.mul_comm]; exact hflat 1 _ rfl))
      have hJ1i : (J : Int) + 1 = (J1 : Int) := by omega
      have hJ1l : (J1 : Int) < 18 := by omega
      have hJ10 : (0 : Int) ≤ (J1 : Int) := by omega
      obtain ⟨k, x⟩ := p
      simp only at q0 q1 hput hwx hk8 hfb hfs
      have HQ0 := Lib.hid q0
      have HQ1 := Lib.hid q1
      have HPUT := Lib.hid hput
      have HX := Lib.hid hwx
      have HFB := Lib.hid hfb
      have HFS := Lib.hid hfs
      have hblr : b9 < wr.heap.size := Nat.lt_of_lt_of_le HBL.out hzw
      have HJ := Lib.hid hJ
      clear q0 q1 hput hwx hfb hfs hflat hmem htk hp hJ hJ1
      go_wp2_with fail
      refine wp_region_rel (fun W W' => Below W.heap.size W W') (fun W => Below wr.heap.size wr W)
        [Det (.slice (some ⟨b9, 0, none⟩) 18 (c9)), Det (.int .i64 (J : Int)), Det (.pointer (some ⟨b9, J, none⟩)), Det (.int .i64 (k : Int)), Det (.slice (some ⟨b9, 0, none⟩) 18 (c9)), Det (.int .i64 (J : Int)), Det (.int .i64 (J1 : Int)), Det (.pointer (some ⟨b9, J1, none⟩)), Det (.int .i64 x), RelNb wr.heap.size k (numB x k k), RelNb wr.heap.size k (numB x k k), RelO wr.heap.size k (numB x k k), Det (.int .i64 0), RelO wr.heap.size k (numB x k k), Det (.int .i64 0)]
        [[], [], [(0, some 51), (1, some 52)], [(2, some 53)], [], [], [(5, some 56)], [(4, some 55), (6, some 57)], [(7, some 58)], [(3, some 54), (8, some 59)], [(9, some 60)], [(10, some 50)], [(10, some 50)], [(11, some 61)], [(12, some 62)]]
        [[], [], [0, 1], [0, 1, 2], [], [], [5], [4, 5, 6], [4, 5, 6, 7], [0, 1, 2, 3, 4, 5, 6, 7, 8], [0, 1, 2, 3, 4, 5, 6, 7, 8, 9], [0, 1, 2, 3, 4, 5, 6, 7, 8, 9, 10], [0, 1, 2, 3, 4, 5, 6, 7, 8, 9, 10], [0, 1, 2, 3, 4, 5, 6, 7, 8, 9, 10, 11], [0, 1, 2, 3, 4, 5, 6, 7, 8, 9, 10, 11, 12, 13]]
        [(0, some 51), (1, some 52), (2, some 53), (3, some 54), (4, some 55), (5, some 56), (6, some 57), (7, some 58), (8, some 59), (9, some 60), (10, some 50), (11, some 61), (12, some 62), (13, some 8), (14, some 9)] (by kernel_rfl) (by kernel_rfl) (fun W W' h1 h2 => h1.trans (h2.mono h1.size)) ((Below.refl _ _).drew) ?_ ?_ ?_
      · exact (AllMono.cons Det.later (AllMono.cons Det.later (AllMono.cons Det.later (AllMono.cons Det.later (AllMono.cons Det.later (AllMono.cons Det.later (AllMono.cons Det.later (AllMono.cons Det.later (AllMono.cons Det.later (AllMono.cons RelNb.later (AllMono.cons RelNb.later (AllMono.cons RelO.later (AllMono.cons Det.later (AllMono.cons RelO.later (AllMono.cons Det.later AllMono.nil)))))))))))))))
      · refine AllOb.cons ?_ (AllOb.cons ?_ (AllOb.cons ?_ (AllOb.cons ?_ (AllOb.cons ?_ (AllOb.cons ?_ (AllOb.cons ?_ (AllOb.cons ?_ (AllOb.cons ?_ (AllOb.cons ?_ (AllOb.cons ?_ (AllOb.cons ?_ (AllOb.cons ?_ (AllOb.cons ?_ (AllOb.cons ?_ (AllOb.nil)))))))))))))))
        · intro uF W hC' hU aF hF
          have hC : Below wr.heap.size wr W := hC'
          clear hC'
          simp only [puts] at hF
          subst hF
          go_wp2_with (fail)
          exact ⟨rfl, rfl, (Below.refl _ _), rfl⟩
        · intro uF W hC' hU aF hF
          have hC : Below wr.heap.size wr W := hC'
          clear hC'
          simp only [puts] at hF
          subst hF
          go_wp2_with (fail)
          exact ⟨rfl, rfl, (Below.refl _ _), rfl⟩
        · intro uF W hC' hU aF hF
          have hC : Below wr.heap.size wr W := hC'
          clear hC'
          have h51 : (Det (.slice (some ⟨b9, 0, none⟩) 18 (c9))) (uF 0) W := hU.1
          have h52 : (Det (.int .i64 (J : Int))) (uF 1) W := hU.2.1
          clear hU
          simp only [puts, Act.put, List.setIfInBounds_toArray, List.set_cons_zero, List.set_cons_succ] at hF
          generalize uF 0 = x51 at h51 hF
          generalize uF 1 = x52 at h52 hF
          obtain rfl : x51 = (.slice (some ⟨b9, 0, none⟩) 18 (c9)) := h51
          obtain rfl : x52 = (.int .i64 (J : Int)) := h52
          subst hF
          go_wp2_with (fail)
          exact ⟨rfl, rfl, (Below.refl _ _), rfl⟩
        · intro uF W hC' hU aF hF
          have hC : Below wr.heap.size wr W := hC'
          clear hC'
          have h53 : (Det (.pointer (some ⟨b9, J, none⟩))) (uF 2) W := hU.1
          clear hU
          simp only [puts, Act.put, List.setIfInBounds_toArray, List.set_cons_zero, List.set_cons_succ] at hF
          generalize uF 2 = x53 at h53 hF
          obtain rfl : x53 = (.pointer (some ⟨b9, J, none⟩)) := h53
          subst hF
          have q := (hC.cell (p := ⟨b9, J, none⟩) hblr).trans HQ0.out
          go_wp2_with (fail)
          exact ⟨rfl, rfl, (Below.refl _ _), rfl⟩
        · intro uF W hC' hU aF hF
          have hC : Below wr.heap.size wr W := hC'
          clear hC'
          simp only [puts] at hF
          subst hF
          go_wp2_with (fail)
          exact ⟨rfl, rfl, (Below.refl _ _), rfl⟩
        · intro uF W hC' hU aF hF
          have hC : Below wr.heap.size wr W := hC'
          clear hC'
          simp only [puts] at hF
          subst hF
          go_wp2_with (fail)
          exact ⟨rfl, rfl, (Below.refl _ _), rfl⟩
        · intro uF W hC' hU aF hF
          have hC : Below wr.heap.size wr W := hC'
          clear hC'
          have h56 : (Det (.int .i64 (J : Int))) (uF 5) W := hU.1
          clear hU
          simp only [puts, Act.put, List.setIfInBounds_toArray, List.set_cons_zero, List.set_cons_succ] at hF
          generalize uF 5 = x56 at h56 hF
          obtain rfl : x56 = (.int .i64 (J : Int)) := h56
          subst hF
          go_wp2_with (fail)
          exact ⟨rfl, rfl, (Below.refl _ _), rfl⟩
        · intro uF W hC' hU aF hF
          have hC : Below wr.heap.size wr W := hC'
          clear hC'
          have h55 : (Det (.slice (some ⟨b9, 0, none⟩) 18 (c9))) (uF 4) W := hU.1
          have h57 : (Det (.int .i64 (J1 : Int))) (uF 6) W := hU.2.1
          clear hU
          simp only [puts, Act.put, List.setIfInBounds_toArray, List.set_cons_zero, List.set_cons_succ] at hF
          generalize uF 4 = x55 at h55 hF
          generalize uF 6 = x57 at h57 hF
          obtain rfl : x55 = (.slice (some ⟨b9, 0, none⟩) 18 (c9)) := h55
          obtain rfl : x57 = (.int .i64 (J1 : Int)) := h57
          subst hF
          go_wp2_with (fail)
          exact ⟨rfl, rfl, (Below.refl _ _), rfl⟩
        · intro uF W hC' hU aF hF
          have hC : Below wr.heap.size wr W := hC'
          clear hC'
          have h58 : (Det (.pointer (some ⟨b9, J1, none⟩))) (uF 7) W := hU.1
          clear hU
          simp only [puts, Act.put, List.setIfInBounds_toArray, List.set_cons_zero, List.set_cons_succ] at hF
          generalize uF 7 = x58 at h58 hF
          obtain rfl : x58 = (.pointer (some ⟨b9, J1, none⟩)) := h58
          subst hF
          have q := (hC.cell (p := ⟨b9, J1, none⟩) hblr).trans HQ1.out
          go_wp2_with (fail)
          exact ⟨rfl, rfl, (Below.refl _ _), rfl⟩
        · intro uF W hC' hU aF hF
          have hC : Below wr.heap.size wr W := hC'
          clear hC'
          have h54 : (Det (.int .i64 (k : Int))) (uF 3) W := hU.1
          have h59 : (Det (.int .i64 x)) (uF 8) W := hU.2.1
          clear hU
          simp only [puts, Act.put, List.setIfInBounds_toArray, List.set_cons_zero, List.set_cons_succ] at hF
          generalize uF 3 = x54 at h54 hF
          generalize uF 8 = x59 at h59 hF
          obtain rfl : x54 = (.int .i64 (k : Int)) := h54
          obtain rfl : x59 = (.int .i64 x) := h59
          subst hF
          go_wp2_with ((go_at_call 42; refine (number_ok (k := k) x HX.out HPUT.out).mono ?_; rintro e W1 ⟨A9, c9, rfl, h9, hb⟩))
          exact ⟨rfl, rfl, hb, ⟨_, _, rfl, Row.base_le h9 hC.size⟩⟩
        · intro uF W hC' hU aF hF
          have hC : Below wr.heap.size wr W := hC'
          clear hC'
          have h60 : (RelNb wr.heap.size k (numB x k k)) (uF 9) W := hU.1
          clear hU
          simp only [puts, Act.put, List.setIfInBounds_toArray, List.set_cons_zero, List.set_cons_succ] at hF
          generalize uF 9 = x60 at h60 hF
          subst hF
          go_wp2_with (fail)
          exact ⟨rfl, rfl, (Below.refl _ _), h60⟩
        · intro uF W hC' hU aF hF
          have hC : Below wr.heap.size wr W := hC'
          clear hC'
          have h50 : (RelNb wr.heap.size k (numB x k k)) (uF 10) W := hU.1
          clear hU
          simp only [puts, Act.put, List.setIfInBounds_toArray, List.set_cons_zero, List.set_cons_succ] at hF
          generalize uF 10 = x50 at h50 hF
          obtain ⟨A50, c50, rfl, s50⟩ := h50
          subst hF
          go_wp2_with (fail)
          exact ⟨rfl, rfl, (Below.refl _ _), ⟨_, _, rfl, s50⟩⟩
        · intro uF W hC' hU aF hF
          have hC : Below wr.heap.size wr W := hC'
          clear hC'
          have h50 : (RelNb wr.heap.size k (numB x k k)) (uF 10) W := hU.1
          clear hU
          simp only [puts, Act.put, List.setIfInBounds_toArray, List.set_cons_zero, List.set_cons_succ] at hF
          generalize uF 10 = x50 at h50 hF
          obtain ⟨A50, c50, rfl, s50⟩ := h50
          subst hF
          go_wp2_with (fail)
          exact ⟨rfl, rfl, (Below.refl _ _), rfl⟩
        · intro uF W hC' hU aF hF
          have hC : Below wr.heap.size wr W := hC'
          clear hC'
          have h61 : (RelO wr.heap.size k (numB x k k)) (uF 11) W := hU.1
          clear hU
          simp only [puts, Act.put, List.setIfInBounds_toArray, List.set_cons_zero, List.set_cons_succ] at hF
          generalize uF 11 = x61 at h61 hF
          subst hF
          go_wp2_with (fail)
          exact ⟨rfl, rfl, (Below.refl _ _), h61⟩
        · intro uF W hC' hU aF hF
          have hC : Below wr.heap.size wr W := hC'
          clear hC'
          have h62 : (Det (.int .i64 0)) (uF 12) W := hU.1
          clear hU
          simp only [puts, Act.put, List.setIfInBounds_toArray, List.set_cons_zero, List.set_cons_succ] at hF
          generalize uF 12 = x62 at h62 hF
          obtain rfl : x62 = (.int .i64 0) := h62
          subst hF
          go_wp2_with (fail)
          exact ⟨rfl, rfl, (Below.refl _ _), rfl⟩
      intro uF w5 hC' hU aF hF
      have hCw5 : Below wr.heap.size wr w5 := hC'
      clear hC'
      have h8 : (RelO wr.heap.size k (numB x k k)) (uF 13) w5 := hU.2.2.2.2.2.2.2.2.2.2.2.2.2.1
      clear hU
      simp only [puts, Act.put, List.setIfInBounds_toArray, List.set_cons_zero, List.set_cons_succ] at hF
      generalize uF 0 = x51 at hF
      generalize uF 1 = x52 at hF
      generalize uF 2 = x53 at hF
      generalize uF 3 = x54 at hF
      generalize uF 4 = x55 at hF
      generalize uF 5 = x56 at hF
      generalize uF 6 = x57 at hF
      generalize uF 7 = x58 at hF
      generalize uF 8 = x59 at hF
      generalize uF 9 = x60 at hF
      generalize uF 10 = x50 at hF
      generalize uF 11 = x61 at hF
      generalize uF 12 = x62 at hF
      generalize uF 13 = x8 at h8 hF
      generalize uF 14 = x9 at hF
      obtain ⟨A8, c8, rfl, s8⟩ := h8
      subst hF
      have hw5 := HW.out.trans (hCw5.mono hzw)
      have hz5 := hw5.size
      have ho5 := HOWN.out.below hCw5
      have hv5 := HWL.out.trans (hw5.mono HWL.out.size)
      have hcap5 := OwB.cap ho5
      go_wp2_with (at_builtin; refine wpList_append8 rfl (.tmp 63) (.tmp 64) rfl rfl ho5 rfl s8.sl (by omega) hz5 (S + k) rfl ?_; intro A6 c6 w6 h6 q6)
      have hw6 : Below w2.heap.size w2 w6 := q6.below ho5 hw5 (Nat.le_refl _) hz5
      exact ⟨⟨j + 1, S + k, A6, c6, by omega, by have := HJ.out; go_num, rfl, by rw [HFS.out, ← HSS.out], by omega, by rw [HFB.out]; exact h6, hw6⟩, by have := HJ.out; simp [intOf]; omega⟩
    · obtain rfl : j = 9 := by omega
      obtain rfl : J = 18 := by omega
      have hown := HOWN.out
      have hS := HSS.out
      rw [show (fl4 6 unit block many ++ fl5 op key new ty false).take 9 = fl4 6 unit block many ++ fl5 op key new ty false from List.take_of_length_le (Nat.le_refl _)] at hown hS
      rw [show fsize (fl4 6 unit block many ++ fl5 op key new ty false) = 25 from rfl] at hS
      subst hS
      have hwv := HWL.out.trans (HW.out.mono HWL.out.size)
      have hzv := hwv.size
      have d4 : wr.cell? ⟨g1, 4, none⟩ = some (.slice A m c) := by rw [(HB1.out.below hwv hgv).cell]; rfl
      have hd3 := HD.out.below (hwv.mono (Nat.le_trans hB hz))
      have hcapn := OwB.cap hown
      have ho3' := Row.base_le hown (b' := v.heap.size) HWL.out.size
      go_wp2_with (at_builtin; refine wpList_append8 rfl (.tmp 66) (.tmp 68) rfl rfl ho3' rfl hd3 (by omega) hzv (25 + m) rfl ?_; intro A7 c7 w7 h7 q7; have hb7 := q7.below ho3' hwv (Nat.le_refl _) hzv)
      go_ret2
      exact ⟨A7, _, c7, rfl, by rw [HCM.out]; exact Row.base_le h7 hz, hbv.trans (hb7.mono hz)⟩

set_option maxHeartbeats 4000000 in
theorem crefenc_six_t {w : World} {B : Nat} {A : Option Addr} {m c : Nat} {ds : List UInt8} (unit block many op who key new ty : Int) (hd : SlB w B A m c ds) (hB : B ≤ w.heap.size) (h : goodC 6 unit block many m op who key new ty true) (hm : m ≤ 140737488351000) (hwf : ∀ p ∈ cmF 6 unit block many op key new ty true, (Lit.int .i64 p.2).wf = true ∧ p.1 ≤ 8) :
    Calls Try.prog 30 #[.agg #[.int .i64 6, .int .i64 unit, .int .i64 block, .int .i64 many, .slice A m c, .int .i64 op, .int .i64 who, .int .i64 key, .int .i64 new, .int .i64 ty, .bool true]] w fun e w' => ∃ A' N c', e = .returned (.tuple #[.slice A' N c', .bool true]) ∧ OwB w' w.heap.size A' N c' (cmB 6 unit block many op key new ty true ds) ∧ Below w.heap.size w w' := by
  have hput := (good_iff.1 h).2
  rw [cmF, if_pos rfl] at hput hwf
  have hcm : cmB 6 unit block many op key new ty true ds = fbytes (fl4 6 unit block many ++ fl5 op key new ty true) ++ ds := by rw [cmB, cmF, if_pos rfl]
  have HCM := Lib.hid hcm
  have HP := Lib.hid hput
  have HWX := Lib.hid hwf
  have HS := Lib.hid h
  clear h hput hwf hcm
  obtain ⟨i0, hI, hy0, hy1, hy2⟩ := info_parts int_info
  obtain ⟨g1, hg1⟩ : ∃ g, g = w.heap.size := ⟨_, rfl⟩
  obtain ⟨v, hv⟩ : ∃ v, v = w.alloc (.cells #[.int .i64 6, .int .i64 unit, .int .i64 block, .int .i64 many, .slice A m c, .int .i64 op, .int .i64 who, .int .i64 key, .int .i64 new, .int .i64 ty, .bool true] 56) := ⟨_, rfl⟩
  have b1 : Blk v g1 56 #[.int .i64 6, .int .i64 unit, .int .i64 block, .int .i64 many, .slice A m c, .int .i64 op, .int .i64 who, .int .i64 key, .int .i64 new, .int .i64 ty, .bool true] := by rw [hv, hg1]; exact Blk.new _ _ _
  have hbv : Below w.heap.size w v := by rw [hv]; exact below_alloc _ _
  have hz := hbv.size
  have hmx := hd.mx
  have hgv := b1.lt
  have HD := Lib.hid (hd.below (hbv.mono hB))
  have HV := Lib.hid hv
  have HG := Lib.hid hg1
  have HB1 := Lib.hid b1
  clear hv hg1 hd b1
  go_enter Try.func30, Try.ntmps30
  go_wp2_with (first
    | ((with_reducible show wpList _ _ _ (Oper.mk (some 10) (Op.load 56 _) _ _ _ _ :: _) _ _); rw [← HV.out, ← HG.out]; refine wpList_load_whole rfl 56 (.tmp 1) rfl g1 rfl #[.int .i64 6, .int .i64 unit, .int .i64 block, .int .i64 many, .slice A m c, .int .i64 op, .int .i64 who, .int .i64 key, .int .i64 new, .int .i64 ty, .bool true] aggCm rfl _ HB1.out ?_)
    | (go_at_call 57; refine (good_yes 6 unit block many op who key new ty true hmx HS.out).mono ?_; rintro e w1 ⟨rfl, hb1⟩; have hz1 := hb1.size; have b11 := HB1.out.below hb1 hgv; have hgw1 := b11.lt; have k0 : w1.cell? ⟨g1, 0, none⟩ = some (.int .i64 6) := (by rw [b11.cell]; rfl); have k1 : w1.cell? ⟨g1, 1, none⟩ = some (.int .i64 unit) := (by rw [b11.cell]; rfl); have k2 : w1.cell? ⟨g1, 2, none⟩ = some (.int .i64 block) := (by rw [b11.cell]; rfl); have k3 : w1.cell? ⟨g1, 3, none⟩ = some (.int .i64 many) := (by rw [b11.cell]; rfl); have k5 : w1.cell? ⟨g1, 5, none⟩ = some (.int .i64 op) := (by rw [b11.cell]; rfl); have k7 : w1.cell? ⟨g1, 7, none⟩ = some (.int .i64 key) := (by rw [b11.cell]; rfl); have k8 : w1.cell? ⟨g1, 8, none⟩ = some (.int .i64 new) := (by rw [b11.cell]; rfl); have k9 : w1.cell? ⟨g1, 9, none⟩ = some (.int .i64 ty) := (by rw [b11.cell]; rfl); have k10 : w1.cell? ⟨g1, 10, none⟩ = some (.bool true) := (by rw [b11.cell]; rfl))
    | (at_builtin; refine wpList_append_row rfl (.tmp 28) (.tmp 42) _ rfl Try.underlying88 hI hy0 hy1 hy2 rfl rfl (Row.alloc (Row.new w1 w1.heap.size 3 1 #[.int .i64 1, .int .i64 6, .int .i64 1, .int .i64 unit, .int .i64 2, .int .i64 block, .int .i64 2, .int .i64 many] 8 8 (Nat.le_refl _) (Nat.le_refl _) (by simp [maxLen]) rfl) (.cells #[.int .i64 1, .int .i64 op, .int .i64 8, .int .i64 key, .int .i64 8, .int .i64 new, .int .i64 1, .int .i64 ty, .int .i64 1, .int .i64 1] 3)) rfl (B := w1.heap.size + 1 + 1) (A2 := some ⟨w1.heap.size + 1, 0, none⟩) (m := 10) (c2 := 10) (news := #[.int .i64 1, .int .i64 op, .int .i64 8, .int .i64 key, .int .i64 8, .int .i64 new, .int .i64 1, .int .i64 ty, .int .i64 1, .int .i64 1].toList) ⟨rfl, Nat.le_refl _, by simp [maxLen], fun _ => ⟨w1.heap.size + 1, 0, rfl, Nat.lt_succ_self _, fun j u hu => by have hb := Blk.new (w1.alloc (.cells #[.int .i64 1, .int .i64 6, .int .i64 1, .int .i64 unit, .int .i64 2, .int .i64 block, .int .i64 2, .int .i64 many] 3)) 3 #[.int .i64 1, .int .i64 op, .int .i64 8, .int .i64 key, .int .i64 8, .int .i64 new, .int .i64 1, .int .i64 ty, .int .i64 1, .int .i64 1]; rw [World.size_alloc] at hb; rw [hb.cell, Nat.zero_add]; simpa using hu⟩⟩ (by simp [Value.oneCell']) (by omega) (by simp [maxLen]) (by simp; omega) ?_; intro A9 c9 w2 h9 q9; have hal2 := ((Below.refl w1.heap.size w1).alloc (Nat.le_refl _) (.cells #[.int .i64 1, .int .i64 6, .int .i64 1, .int .i64 unit, .int .i64 2, .int .i64 block, .int .i64 2, .int .i64 many] 3)).alloc (by simp) (.cells #[.int .i64 1, .int .i64 op, .int .i64 8, .int .i64 key, .int .i64 8, .int .i64 new, .int .i64 1, .int .i64 ty, .int .i64 1, .int .i64 1] 3); have hb2 : Below w1.heap.size w1 w2 := q9.below (Row.alloc (Row.new w1 w1.heap.size 3 1 #[.int .i64 1, .int .i64 6, .int .i64 1, .int .i64 unit, .int .i64 2, .int .i64 block, .int .i64 2, .int .i64 many] 8 8 (Nat.le_refl _) (Nat.le_refl _) (by simp [maxLen]) rfl) (.cells #[.int .i64 1, .int .i64 op, .int .i64 8, .int .i64 key, .int .i64 8, .int .i64 new, .int .i64 1, .int .i64 ty, .int .i64 1, .int .i64 1] 3)) hal2 (Nat.le_refl _) (by simp; omega)))
  obtain ⟨b9, cur9, e9, _, hb9, _⟩ := h9.2.2.2 (by have := h9.2.1; omega)
  subst e9
  have hc9 : 18 ≤ c9 := h9.2.1
  have hc9m : c9 ≤ 9223372036854775807 := h9.2.2.1
  have HWL := Lib.hid (hb1.trans (hb2.mono hz1))
  have HBL := Lib.hid hb9.lt
  have HCL := Lib.hid (fun (t : Nat) (v : Value) (hv : (fcells (fl4 6 unit block many ++ fl5 op key new ty true))[t]? = some v) => row_cell h9 (by omega) (show (#[.int .i64 1, .int .i64 6, .int .i64 1, .int .i64 unit, .int .i64 2, .int .i64 block, .int .i64 2, .int .i64 many].toList ++ #[.int .i64 1, .int .i64 op, .int .i64 8, .int .i64 key, .int .i64 8, .int .i64 new, .int .i64 1, .int .i64 ty, .int .i64 1, .int .i64 1].toList)[t]? = some v by simpa [fcells, fl4, fl5, stI] using hv))
  clear h9 hb9 q9 hal2
  go_wp2_with fail
  go_loopw [6, 7] (fun v6 v7 wr => ∃ (j S : Nat) (Ao : Option Addr) (co : Nat), j ≤ 9 ∧ v7 = .int .i64 ((2 * j : Nat) : Int) ∧ v6 = .slice Ao S co ∧ S = fsize ((fl4 6 unit block many ++ fl5 op key new ty true).take j) ∧ S ≤ 8 * j ∧ OwB wr w2.heap.size Ao S co (fbytes ((fl4 6 unit block many ++ fl5 op key new ty true).take j)) ∧ Below w2.heap.size w2 wr) (fun _ v _ => 18 - (intOf v).toNat)
  case atStart => exact ⟨0, 0, none, 0, by omega, rfl, rfl, rfl, by omega, OwB.nil _ _ _, Below.refl _ _⟩
  case round =>
    obtain ⟨j, S, Ao, co, hj, rfl, rfl, hS, hS8, hown, hw⟩ := hrel
    have hzw := hw.size
    obtain ⟨J, hJ⟩ : ∃ J, J = 2 * j := ⟨_, rfl⟩
    rw [← hJ]
    have HOWN := Lib.hid hown
    have HSS := Lib.hid hS
    have HW := Lib.hid hw
    clear hown hS hw
    by_cases hlt : j < 9
    · have hii : (J : Int) < 18 := by omega
      have hi0 : (0 : Int) ≤ (J : Int) := by omega
      obtain ⟨p, hp⟩ : ∃ p, (fl4 6 unit block many ++ fl5 op key new ty true)[j]? = some p := ⟨_, List.getElem?_eq_getElem (by exact hlt)⟩
      have htk : (fl4 6 unit block many ++ fl5 op key new ty true).take (j + 1) = (fl4 6 unit block many ++ fl5 op key new ty true).take j ++ [p] := by rw [List.take_add_one, hp]; rfl
      have hfb := fbytes_snoc ((fl4 6 unit block many ++ fl5 op key new ty true).take j) p
      have hfs := fsize_snoc ((fl4 6 unit block many ++ fl5 op key new ty true).take j) p
      rw [← htk] at hfb hfs
      have hmem := List.mem_of_getElem? hp
      have hput := HP.out p hmem
      obtain ⟨hwx, hk8⟩ := HWX.out p hmem
      have hflat : ∀ t v, [Value.int .i64 (p.1 : Int), .int .i64 p.2][t]? = some v → (fcells (fl4 6 unit block many ++ fl5 op key new ty true))[j * 2 + t]? = some v := fun t v hv => by
        have ht2 : t < 2 := (List.getElem?_eq_some_iff.1 hv).1
        rw [fcells, flatten_get 2 _ (fun r hr => by obtain ⟨f', _, rfl⟩ := List.mem_map.1 hr; rfl) j t [Value.int .i64 (p.1 : Int), .int .i64 p.2] (by rw [List.getElem?_map, hp]; rfl) ht2]
        exact hv
      have q0 : wr.cell? ⟨b9, J, none⟩ = some (.int .i64 (p.1 : Int)) := (HW.out.cell (p := ⟨b9, J, none⟩) HBL.out).trans (HCL.out J _ (by rw [hJ, Nat.mul_comm]; exact hflat 0 _ rfl))
      obtain ⟨J1, hJ1⟩ : ∃ J1, J1 = J + 1 := ⟨_, rfl⟩
      have q1 : wr.cell? ⟨b9, J1, none⟩ = some (.int .i64 p.2) := (HW.out.cell (p := ⟨b9, J1, none⟩) HBL.out).trans (HCL.out J1 _ (by rw [hJ1, hJ, Nat.mul_comm]; exact hflat 1 _ rfl))
      have hJ1i : (J : Int) + 1 = (J1 : Int) := by omega
      have hJ1l : (J1 : Int) < 18 := by omega
      have hJ10 : (0 : Int) ≤ (J1 : Int) := by omega
      obtain ⟨k, x⟩ := p
      simp only at q0 q1 hput hwx hk8 hfb hfs
      have HQ0 := Lib.hid q0
      have HQ1 := Lib.hid q1
      have HPUT := Lib.hid hput
      have HX := Lib.hid hwx
      have HFB := Lib.hid hfb
      have HFS := Lib.hid hfs
      have hblr : b9 < wr.heap.size := Nat.lt_of_lt_of_le HBL.out hzw
      have HJ := Lib.hid hJ
      clear q0 q1 hput hwx hfb hfs hflat hmem htk hp hJ hJ1
      go_wp2_with fail
      refine wp_region_rel (fun W W' => Below W.heap.size W W') (fun W => Below wr.heap.size wr W)
        [Det (.slice (some ⟨b9, 0, none⟩) 18 (c9)), Det (.int .i64 (J : Int)), Det (.pointer (some ⟨b9, J, none⟩)), Det (.int .i64 (k : Int)), Det (.slice (some ⟨b9, 0, none⟩) 18 (c9)), Det (.int .i64 (J : Int)), Det (.int .i64 (J1 : Int)), Det (.pointer (some ⟨b9, J1, none⟩)), Det (.int .i64 x), RelNb wr.heap.size k (numB x k k), RelNb wr.heap.size k (numB x k k), RelO wr.heap.size k (numB x k k), Det (.int .i64 0), RelO wr.heap.size k (numB x k k), Det (.int .i64 0)]
        [[], [], [(0, some 51), (1, some 52)], [(2, some 53)], [], [], [(5, some 56)], [(4, some 55), (6, some 57)], [(7, some 58)], [(3, some 54), (8, some 59)], [(9, some 60)], [(10, some 50)], [(10, some 50)], [(11, some 61)], [(12, some 62)]]
        [[], [], [0, 1], [0, 1, 2], [], [], [5], [4, 5, 6], [4, 5, 6, 7], [0, 1, 2, 3, 4, 5, 6, 7, 8], [0, 1, 2, 3, 4, 5, 6, 7, 8, 9], [0, 1, 2, 3, 4, 5, 6, 7, 8, 9, 10], [0, 1, 2, 3, 4, 5, 6, 7, 8, 9, 10], [0, 1, 2, 3, 4, 5, 6, 7, 8, 9, 10, 11], [0, 1, 2, 3, 4, 5, 6, 7, 8, 9, 10, 11, 12, 13]]
        [(0, some 51), (1, some 52), (2, some 53), (3, some 54), (4, some 55), (5, some 56), (6, some 57), (7, some 58), (8, some 59), (9, some 60), (10, some 50), (11, some 61), (12, some 62), (13, some 8), (14, some 9)] (by kernel_rfl) (by kernel_rfl) (fun W W' h1 h2 => h1.trans (h2.mono h1.size)) ((Below.refl _ _).drew) ?_ ?_ ?_
      · exact (AllMono.cons Det.later (AllMono.cons Det.later (AllMono.cons Det.later (AllMono.cons Det.later (AllMono.cons Det.later (AllMono.cons Det.later (AllMono.cons Det.later (AllMono.cons Det.later (AllMono.cons Det.later (AllMono.cons RelNb.later (AllMono.cons RelNb.later (AllMono.cons RelO.later (AllMono.cons Det.later (AllMono.cons RelO.later (AllMono.cons Det.later AllMono.nil)))))))))))))))
      · refine AllOb.cons ?_ (AllOb.cons ?_ (AllOb.cons ?_ (AllOb.cons ?_ (AllOb.cons ?_ (AllOb.cons ?_ (AllOb.cons ?_ (AllOb.cons ?_ (AllOb.cons ?_ (AllOb.cons ?_ (AllOb.cons ?_ (AllOb.cons ?_ (AllOb.cons ?_ (AllOb.cons ?_ (AllOb.cons ?_ (AllOb.nil)))))))))))))))
        · intro uF W hC' hU aF hF
          have hC : Below wr.heap.size wr W := hC'
          clear hC'
          simp only [puts] at hF
          subst hF
          go_wp2_with (fail)
          exact ⟨rfl, rfl, (Below.refl _ _), rfl⟩
        · intro uF W hC' hU aF hF
          have hC : Below wr.heap.size wr W := hC'
          clear hC'
          simp only [puts] at hF
          subst hF
          go_wp2_with (fail)
          exact ⟨rfl, rfl, (Below.refl _ _), rfl⟩
        · intro uF W hC' hU aF hF
          have hC : Below wr.heap.size wr W := hC'
          clear hC'
          have h51 : (Det (.slice (some ⟨b9, 0, none⟩) 18 (c9))) (uF 0) W := hU.1
          have h52 : (Det (.int .i64 (J : Int))) (uF 1) W := hU.2.1
          clear hU
          simp only [puts, Act.put, List.setIfInBounds_toArray, List.set_cons_zero, List.set_cons_succ] at hF
          generalize uF 0 = x51 at h51 hF
          generalize uF 1 = x52 at h52 hF
          obtain rfl : x51 = (.slice (some ⟨b9, 0, none⟩) 18 (c9)) := h51
          obtain rfl : x52 = (.int .i64 (J : Int)) := h52
          subst hF
          go_wp2_with (fail)
          exact ⟨rfl, rfl, (Below.refl _ _), rfl⟩
        · intro uF W hC' hU aF hF
          have hC : Below wr.heap.size wr W := hC'
          clear hC'
          have h53 : (Det (.pointer (some ⟨b9, J, none⟩))) (uF 2) W := hU.1
          clear hU
          simp only [puts, Act.put, List.setIfInBounds_toArray, List.set_cons_zero, List.set_cons_succ] at hF
          generalize uF 2 = x53 at h53 hF
          obtain rfl : x53 = (.pointer (some ⟨b9, J, none⟩)) := h53
          subst hF
          have q := (hC.cell (p := ⟨b9, J, none⟩) hblr).trans HQ0.out
          go_wp2_with (fail)
          exact ⟨rfl, rfl, (Below.refl _ _), rfl⟩
        · intro uF W hC' hU aF hF
          have hC : Below wr.heap.size wr W := hC'
          clear hC'
          simp only [puts] at hF
          subst hF
          go_wp2_with (fail)
          exact ⟨rfl, rfl, (Below.refl _ _), rfl⟩
        · intro uF W hC' hU aF hF
          have hC : Below wr.heap.size wr W := hC'
          clear hC'
          simp only [puts] at hF
          subst hF
          go_wp2_with (fail)
          exact ⟨rfl, rfl, (Below.refl _ _), rfl⟩
        · intro uF W hC' hU aF hF
          have hC : Below wr.heap.size wr W := hC'
          clear hC'
          have h56 : (Det (.int .i64 (J : Int))) (uF 5) W := hU.1
          clear hU
          simp only [puts, Act.put, List.setIfInBounds_toArray, List.set_cons_zero, List.set_cons_succ] at hF
          generalize uF 5 = x56 at h56 hF
          obtain rfl : x56 = (.int .i64 (J : Int)) := h56
          subst hF
          go_wp2_with (fail)
          exact ⟨rfl, rfl, (Below.refl _ _), rfl⟩
        · intro uF W hC' hU aF hF
          have hC : Below wr.heap.size wr W := hC'
          clear hC'
          have h55 : (Det (.slice (some ⟨b9, 0, none⟩) 18 (c9))) (uF 4) W := hU.1
          have h57 : (Det (.int .i64 (J1 : Int))) (uF 6) W := hU.2.1
          clear hU
          simp only [puts, Act.put, List.setIfInBounds_toArray, List.set_cons_zero, List.set_cons_succ] at hF
          generalize uF 4 = x55 at h55 hF
          generalize uF 6 = x57 at h57 hF
          obtain rfl : x55 = (.slice (some ⟨b9, 0, none⟩) 18 (c9)) := h55
          obtain rfl : x57 = (.int .i64 (J1 : Int)) := h57
          subst hF
          go_wp2_with (fail)
          exact ⟨rfl, rfl, (Below.refl _ _), rfl⟩
        · intro uF W hC' hU aF hF
          have hC : Below wr.heap.size wr W := hC'
          clear hC'
          have h58 : (Det (.pointer (some ⟨b9, J1, none⟩))) (uF 7) W := hU.1
          clear hU
          simp only [puts, Act.put, List.setIfInBounds_toArray, List.set_cons_zero, List.set_cons_succ] at hF
          generalize uF 7 = x58 at h58 hF
          obtain rfl : x58 = (.pointer (some ⟨b9, J1, none⟩)) := h58
          subst hF
          have q := (hC.cell (p := ⟨b9, J1, none⟩) hblr).trans HQ1.out
          go_wp2_with (fail)
          exact ⟨rfl, rfl, (Below.refl _ _), rfl⟩
        · intro uF W hC' hU aF hF
          have hC : Below wr.heap.size wr W := hC'
          clear hC'
          have h54 : (Det (.int .i64 (k : Int))) (uF 3) W := hU.1
          have h59 : (Det (.int .i64 x)) (uF 8) W := hU.2.1
          clear hU
          simp only [puts, Act.put, List.setIfInBounds_toArray, List.set_cons_zero, List.set_cons_succ] at hF
          generalize uF 3 = x54 at h54 hF
          generalize uF 8 = x59 at h59 hF
          obtain rfl : x54 = (.int .i64 (k : Int)) := h54
          obtain rfl : x59 = (.int .i64 x) := h59
          subst hF
          go_wp2_with ((go_at_call 42; refine (number_ok (k := k) x HX.out HPUT.out).mono ?_; rintro e W1 ⟨A9, c9, rfl, h9, hb⟩))
          exact ⟨rfl, rfl, hb, ⟨_, _, rfl, Row.base_le h9 hC.size⟩⟩
        · intro uF W hC' hU aF hF
          have hC : Below wr.heap.size wr W := hC'
          clear hC'
          have h60 : (RelNb wr.heap.size k (numB x k k)) (uF 9) W := hU.1
          clear hU
          simp only [puts, Act.put, List.setIfInBounds_toArray, List.set_cons_zero, List.set_cons_succ] at hF
          generalize uF 9 = x60 at h60 hF
          subst hF
          go_wp2_with (fail)
          exact ⟨rfl, rfl, (Below.refl _ _), h60⟩
        · intro uF W hC' hU aF hF
          have hC : Below wr.heap.size wr W := hC'
          clear hC'
          have h50 : (RelNb wr.heap.size k (numB x k k)) (uF 10) W := hU.1
          clear hU
          simp only [puts, Act.put, List.setIfInBounds_toArray, List.set_cons_zero, List.set_cons_succ] at hF
          generalize uF 10 = x50 at h50 hF
          obtain ⟨A50, c50, rfl, s50⟩ := h50
          subst hF
          go_wp2_with (fail)
          exact ⟨rfl, rfl, (Below.refl _ _), ⟨_, _, rfl, s50⟩⟩
        · intro uF W hC' hU aF hF
          have hC : Below wr.heap.size wr W := hC'
          clear hC'
          have h50 : (RelNb wr.heap.size k (numB x k k)) (uF 10) W := hU.1
          clear hU
          simp only [puts, Act.put, List.setIfInBounds_toArray, List.set_cons_zero, List.set_cons_succ] at hF
          generalize uF 10 = x50 at h50 hF
          obtain ⟨A50, c50, rfl, s50⟩ := h50
          subst hF
          go_wp2_with (fail)
          exact ⟨rfl, rfl, (Below.refl _ _), rfl⟩
        · intro uF W hC' hU aF hF
          have hC : Below wr.heap.size wr W := hC'
          clear hC'
          have h61 : (RelO wr.heap.size k (numB x k k)) (uF 11) W := hU.1
          clear hU
          simp only [puts, Act.put, List.setIfInBounds_toArray, List.set_cons_zero, List.set_cons_succ] at hF
          generalize uF 11 = x61 at h61 hF
          subst hF
          go_wp2_with (fail)
          exact ⟨rfl, rfl, (Below.refl _ _), h61⟩
        · intro uF W hC' hU aF hF
          have hC : Below wr.heap.size wr W := hC'
          clear hC'
          have h62 : (Det (.int .i64 0)) (uF 12) W := hU.1
          clear hU
          simp only [puts, Act.put, List.setIfInBounds_toArray, List.set_cons_zero, List.set_cons_succ] at hF
          generalize uF 12 = x62 at h62 hF
          obtain rfl : x62 = (.int .i64 0) := h62
          subst hF
          go_wp2_with (fail)
          exact ⟨rfl, rfl, (Below.refl _ _), rfl⟩
      intro uF w5 hC' hU aF hF
      have hCw5 : Below wr.heap.size wr w5 := hC'
      clear hC'
      have h8 : (RelO wr.heap.size k (numB x k k)) (uF 13) w5 := hU.2.2.2.2.2.2.2.2.2.2.2.2.2.1
      clear hU
      simp only [puts, Act.put, List.setIfInBounds_toArray, List.set_cons_zero, List.set_cons_succ] at hF
      generalize uF 0 = x51 at hF
      generalize uF 1 = x52 at hF
      generalize uF 2 = x53 at hF
      generalize uF 3 = x54 at hF
      generalize uF 4 = x55 at hF
      generalize uF 5 = x56 at hF
      generalize uF 6 = x57 at hF
      generalize uF 7 = x58 at hF
      generalize uF 8 = x59 at hF
      generalize uF 9 = x60 at hF
      generalize uF 10 = x50 at hF
      generalize uF 11 = x61 at hF
      generalize uF 12 = x62 at hF
      generalize uF 13 = x8 at h8 hF
      generalize uF 14 = x9 at hF
      obtain ⟨A8, c8, rfl, s8⟩ := h8
      subst hF
      have hw5 := HW.out.trans (hCw5.mono hzw)
      have hz5 := hw5.size
      have ho5 := HOWN.out.below hCw5
      have hv5 := HWL.out.trans (hw5.mono HWL.out.size)
      have hcap5 := OwB.cap ho5
      go_wp2_with (at_builtin; refine wpList_append8 rfl (.tmp 63) (.tmp 64) rfl rfl ho5 rfl s8.sl (by omega) hz5 (S + k) rfl ?_; intro A6 c6 w6 h6 q6)
      have hw6 : Below w2.heap.size w2 w6 := q6.below ho5 hw5 (Nat.le_refl _) hz5
      exact ⟨⟨j + 1, S + k, A6, c6, by omega, by have := HJ.out; go_num, rfl, by rw [HFS.out, ← HSS.out], by omega, by rw [HFB.out]; exact h6, hw6⟩, by have := HJ.out; simp [intOf]; omega⟩
    · obtain rfl : j = 9 := by omega
      obtain rfl : J = 18 := by omega
      have hown := HOWN.out
      have hS := HSS.out
      rw [show (fl4 6 unit block many ++ fl5 op key new ty true).take 9 = fl4 6 unit block many ++ fl5 op key new ty true from List.take_of_length_le (Nat.le_refl _)] at hown hS
      rw [show fsize (fl4 6 unit block many ++ fl5 op key new ty true) = 25 from rfl] at hS
      subst hS
      have hwv := HWL.out.trans (HW.out.mono HWL.out.size)
      have hzv := hwv.size
      have d4 : wr.cell? ⟨g1, 4, none⟩ = some (.slice A m c) := by rw [(HB1.out.below hwv hgv).cell]; rfl
      have hd3 := HD.out.below (hwv.mono (Nat.le_trans hB hz))
      have hcapn := OwB.cap hown
      have ho3' := Row.base_le hown (b' := v.heap.size) HWL.out.size
      go_wp2_with (at_builtin; refine wpList_append8 rfl (.tmp 66) (.tmp 68) rfl rfl ho3' rfl hd3 (by omega) hzv (25 + m) rfl ?_; intro A7 c7 w7 h7 q7; have hb7 := q7.below ho3' hwv (Nat.le_refl _) hzv)
      go_ret2
      exact ⟨A7, _, c7, rfl, by rw [HCM.out]; exact Row.base_le h7 hz, hbv.trans (hb7.mono hz)⟩

theorem crefenc_c {w : World} {B : Nat} {A : Option Addr} {m c : Nat} {ds : List UInt8} (kind unit block many op who key new ty : Int) (st : Bool) (hd : SlB w B A m c ds) (hB : B ≤ w.heap.size) (hm : m ≤ 140737488351000) (hwf : (Lit.int .i64 kind).wf = true ∧ (Lit.int .i64 unit).wf = true ∧ (Lit.int .i64 block).wf = true ∧ (Lit.int .i64 many).wf = true) (hwf2 : (Lit.int .i64 op).wf = true ∧ (Lit.int .i64 key).wf = true ∧ (Lit.int .i64 new).wf = true ∧ (Lit.int .i64 ty).wf = true) :
    Calls Try.prog 30 #[.agg #[.int .i64 kind, .int .i64 unit, .int .i64 block, .int .i64 many, .slice A m c, .int .i64 op, .int .i64 who, .int .i64 key, .int .i64 new, .int .i64 ty, .bool st]] w fun e w' => Below w.heap.size w w' ∧ ((goodC kind unit block many m op who key new ty st ∧ ∃ A' N c', e = .returned (.tuple #[.slice A' N c', .bool true]) ∧ OwB w' w.heap.size A' N c' (cmB kind unit block many op key new ty st ds)) ∨ (¬ goodC kind unit block many m op who key new ty st ∧ e = .returned (.tuple #[.slice none 0 0, .bool false]))) := by
  have hall : ∀ p ∈ cmF kind unit block many op key new ty st, (Lit.int .i64 p.2).wf = true ∧ p.1 ≤ 8 := by
    obtain ⟨q1, q2, q3, q4⟩ := hwf
    obtain ⟨r1, r2, r3, r4⟩ := hwf2
    have q5 : (Lit.int .i64 (stI st)).wf = true := by cases st <;> rfl
    intro p hp
    unfold cmF at hp
    split at hp
    · simp only [fl4, fl5, List.cons_append, List.nil_append, List.mem_cons, List.not_mem_nil, or_false] at hp
      rcases hp with rfl | rfl | rfl | rfl | rfl | rfl | rfl | rfl | rfl
      · exact ⟨q1, by simp⟩
      · exact ⟨q2, by simp⟩
      · exact ⟨q3, by simp⟩
      · exact ⟨q4, by simp⟩
      · exact ⟨r1, by simp⟩
      · exact ⟨r2, by simp⟩
      · exact ⟨r3, by simp⟩
      · exact ⟨r4, by simp⟩
      · exact ⟨q5, by simp⟩
    · simp only [fl4, List.mem_cons, List.not_mem_nil, or_false] at hp
      rcases hp with rfl | rfl | rfl | rfl
      · exact ⟨q1, by simp⟩
      · exact ⟨q2, by simp⟩
      · exact ⟨q3, by simp⟩
      · exact ⟨q4, by simp⟩
  by_cases hg : goodC kind unit block many m op who key new ty st
  · by_cases hk : kind = 6
    · subst hk
      cases st with
      | false =>
        refine (crefenc_six_f unit block many op who key new ty hd hB hg hm hall).mono ?_
        rintro e w' ⟨A', N, c', rfl, ho, hb⟩
        exact ⟨hb, .inl ⟨hg, A', N, c', rfl, ho⟩⟩
      | true =>
        refine (crefenc_six_t unit block many op who key new ty hd hB hg hm hall).mono ?_
        rintro e w' ⟨A', N, c', rfl, ho, hb⟩
        exact ⟨hb, .inl ⟨hg, A', N, c', rfl, ho⟩⟩
    · refine (crefenc_four kind unit block many op who key new ty st hd hB hg hk hm hall).mono ?_
      rintro e w' ⟨A', N, c', rfl, ho, hb⟩
      exact ⟨hb, .inl ⟨hg, A', N, c', rfl, ho⟩⟩
  · refine (crefenc_no kind unit block many op who key new ty st hd hB hg).mono ?_
    rintro e w' ⟨rfl, hb⟩
    exact ⟨hb, .inr ⟨hg, rfl⟩⟩

end Go.Proofs.Ytjjpifppdjpcnaa

