/-
  cdb.put: fields as bytes.
-/
import Derived.Test.YtjjpifppdjpcnaaPduLaw
namespace Go.Proofs.Ytjjpifppdjpcnaa
open Go.RowKit
set_option linter.unusedVariables false
set_option linter.unusedSimpArgs false
set_option maxRecDepth 100000

/-- Fields: sizes and numbers; their cells, their bytes. -/
def fcells (fl : List (Nat × Int)) : List Value := (fl.map fun p => [Value.int .i64 (p.1 : Int), .int .i64 p.2]).flatten
def fbytes (fl : List (Nat × Int)) : List UInt8 := (fl.map fun p => numB p.2 p.1 p.1).flatten
def fsize (fl : List (Nat × Int)) : Nat := (fl.map (·.1)).sum
theorem fbytes_snoc (fl : List (Nat × Int)) (p : Nat × Int) : fbytes (fl ++ [p]) = fbytes fl ++ numB p.2 p.1 p.1 := by simp [fbytes]
theorem fsize_snoc (fl : List (Nat × Int)) (p : Nat × Int) : fsize (fl ++ [p]) = fsize fl + p.1 := by simp [fsize]
theorem len_fbytes (fl : List (Nat × Int)) : (fbytes fl).length = fsize fl := by
  induction fl with
  | nil => rfl
  | cons p fl ih => simp only [fbytes, fsize, List.map_cons, List.flatten_cons, List.length_append, len_numB, List.sum_cons] at *; omega
theorem agg_field : AggT Try.prog 96 2 := ⟨⟨_, Try.underlying96, rfl⟩, by kernel_rfl⟩
theorem zero_field : (Try.prog.info? 96).bind (·.zero) = some (.agg #[.int .i64 0, .int .i64 0]) := by kernel_rfl
theorem fcells_get {w : World} {B : Nat} {A : Option Addr} {n c : Nat} {fl : List (Nat × Int)} (h : Sl w B 2 A n c (fcells fl)) {i : Nat} {p : Nat × Int} (hi : fl[i]? = some p) (hn : fl.length = n) :
    ∃ b off, A = some ⟨b, off, none⟩ ∧ b < B ∧ ∀ j v, [Value.int .i64 (p.1 : Int), .int .i64 p.2][j]? = some v → w.cell? ⟨b, off + i * 2 + j, none⟩ = some v := by
  have hlt : i < fl.length := (List.getElem?_eq_some_iff.1 hi).1
  have hc := h.2.1
  obtain ⟨b, off, e, hb, hj⟩ := h.at_ (by omega)
  refine ⟨b, off, e, hb, fun j v hv => ?_⟩
  have hj2 : j < 2 := (List.getElem?_eq_some_iff.1 hv).1
  rw [Nat.add_assoc]
  refine hj _ _ ?_
  rw [fcells, flatten_get 2 _ (fun r hr => by obtain ⟨f', _, rfl⟩ := List.mem_map.1 hr; rfl) i j [Value.int .i64 (p.1 : Int), .int .i64 p.2] (by rw [List.getElem?_map, hi]; rfl) hj2]
  exact hv

set_option maxHeartbeats 2000000 in
/-- The walk of put: all numbers fit, or one does not. -/
theorem put_c {w : World} {B : Nat} {A : Option Addr} {n c : Nat} {fl : List (Nat × Int)} (hf : Sl w B 2 A n c (fcells fl)) (hB : B ≤ w.heap.size) (hl : fl.length = n) (hn : n ≤ 1000) (hwf : ∀ p ∈ fl, (Lit.int .i64 p.2).wf = true ∧ p.1 ≤ 8) :
    Calls Try.prog 56 #[.slice A n c] w fun e w' => Below w.heap.size w w' ∧
      (((∀ p ∈ fl, okPut p.1 p.2) ∧ ∃ A' c', e = .returned (.tuple #[.slice A' (fsize fl) c', .nilIface]) ∧ OwB w' w.heap.size A' (fsize fl) c' (fbytes fl)) ∨
       ((¬ ∀ p ∈ fl, okPut p.1 p.2) ∧ e = .returned (.tuple #[.slice none 0 0, .iface 35 (.int .i64 11)]))) := by
  have hcm : c ≤ 9223372036854775807 := hf.2.2.1
  have hnc : n ≤ c := hf.2.1
  have HF := Lib.hid hf
  have HL := Lib.hid hl
  have HWF := Lib.hid hwf
  clear hf hl hwf
  go_enter Try.func56, Try.ntmps56
  go_wp2_with fail
  go_loopw [4, 10] (fun v4 v10 wr => ∃ (i N : Nat) (Ao : Option Addr) (co : Nat), i ≤ n ∧ v10 = .int .i64 (i : Int) ∧ v4 = .slice Ao N co ∧ N = fsize (fl.take i) ∧ N ≤ 8 * i ∧ (∀ p ∈ fl.take i, okPut p.1 p.2) ∧ OwB wr w.heap.size Ao N co (fbytes (fl.take i)) ∧ Below w.heap.size w wr) (fun _ v _ => n - (intOf v).toNat)
  case atStart => exact ⟨0, 0, none, 0, by omega, rfl, rfl, rfl, by omega, by simp, OwB.nil _ _ _, Below.refl _ _⟩
  case round =>
    obtain ⟨i, N, Ao, co, hi, rfl, rfl, hN, hN8, hall, hown, hw⟩ := hrel
    have hzw := hw.size
    have HOWN := Lib.hid hown
    have HALL := Lib.hid hall
    have HNN := Lib.hid hN
    have HW := Lib.hid hw
    clear hown hall hN hw
    by_cases hlt : i < n
    · have hii : (i : Int) < (n : Int) := by omega
      have hi0 : (0 : Int) ≤ (i : Int) := by omega
      obtain ⟨p, hp⟩ : ∃ p, fl[i]? = some p := ⟨_, List.getElem?_eq_getElem (by rw [HL.out]; exact hlt)⟩
      have htk : fl.take (i + 1) = fl.take i ++ [p] := by rw [List.take_add_one, hp]; rfl
      have hfb := fbytes_snoc (fl.take i) p
      have hfs := fsize_snoc (fl.take i) p
      rw [← htk] at hfb hfs
      obtain ⟨b, off, rfl, hbB, hcell⟩ := fcells_get (HF.out.below (HW.out.mono hB)) hp HL.out
      have hmem := List.mem_of_getElem? hp
      obtain ⟨hwx, hk8⟩ := HWF.out p hmem
      obtain ⟨k, x⟩ := p
      simp only at hcell hwx hk8 hfb hfs hmem
      have HC := Lib.hid hcell
      have HTK := Lib.hid htk
      have HFB := Lib.hid hfb
      have HFS := Lib.hid hfs
      have HME := Lib.hid hmem
      have HWX := Lib.hid hwx
      have bn := Blk.new wr 96 #[.int .i64 0, .int .i64 0]
      clear hcell htk hfb hfs hmem hwx hp
      by_cases hok : okPut k x
      · have HOK := Lib.hid hok
        clear hok
        go_wp2_with (first
          | ((with_reducible show wpList _ _ _ (Oper.mk (some 13) (Op.load 96 _) _ _ _ _ :: _) _ _); refine wpList_load_agg rfl 96 (.tmp 12) rfl b (off + i * 2) rfl #[.int .i64 (k : Int), .int .i64 x] agg_field rfl (fun j v hv => HC.out j v (by simpa using hv)) ?_)
          | ((with_reducible show wpList _ _ _ (Oper.mk (some 6) (Op.alloc 96) _ _ _ _ :: _) _ _); refine wpList_alloc_agg rfl 96 rfl #[.int .i64 0, .int .i64 0] zero_field ?_)
          | ((with_reducible show wpList _ _ _ (Oper.mk none (Op.store 96 (.tmp 6) _) _ _ _ _ :: _) _ _); refine wpList_store_whole rfl 96 (.tmp 6) (.tmp 13) rfl wr.heap.size rfl [.int .i64 (k : Int), .int .i64 x] rfl agg_field rfl _ _ bn rfl (by simp [Value.oneCell']) ?_; intro v1 b1 g1 s1; have h01 : Below wr.heap.size wr v1 := (below_alloc _ _).grown g1 (by simp) (fun k hk => by cases hk; exact Nat.le_refl _); have hw1 := HW.out.trans (h01.mono hzw); have hz1 := hw1.size; have k0 : v1.cell? ⟨wr.heap.size, 0, none⟩ = some (.int .i64 (k : Int)) := (by rw [b1.cell]; rfl); have k1 : v1.cell? ⟨wr.heap.size, 1, none⟩ = some (.int .i64 x) := (by rw [b1.cell]; rfl); clear g1 s1)
          | (go_at_call 40; refine (put_good (OwB.sl (HOWN.out.below h01)) (Nat.le_refl _) (by omega) x HWX.out HOK.out).mono ?_; rintro e w2 ⟨A2, c2, rfl, ho2, hb2⟩; have hw2 := hw1.trans (hb2.mono hz1)))
        refine ⟨⟨i + 1, N + k, A2, c2, by omega, by go_num, rfl, by rw [HFS.out, ← HNN.out], by omega, ?_, by rw [HFB.out]; exact Row.base_le ho2 hz1, hw2⟩, by simp [intOf]; omega⟩
        rw [HTK.out]
        intro q hq
        rcases List.mem_append.1 hq with h | h
        · exact HALL.out q h
        · obtain rfl : q = (k, x) := by simpa using h
          exact HOK.out
      · have HOK := Lib.hid hok
        clear hok
        go_wp2_with (first
          | ((with_reducible show wpList _ _ _ (Oper.mk (some 13) (Op.load 96 _) _ _ _ _ :: _) _ _); refine wpList_load_agg rfl 96 (.tmp 12) rfl b (off + i * 2) rfl #[.int .i64 (k : Int), .int .i64 x] agg_field rfl (fun j v hv => HC.out j v (by simpa using hv)) ?_)
          | ((with_reducible show wpList _ _ _ (Oper.mk (some 6) (Op.alloc 96) _ _ _ _ :: _) _ _); refine wpList_alloc_agg rfl 96 rfl #[.int .i64 0, .int .i64 0] zero_field ?_)
          | ((with_reducible show wpList _ _ _ (Oper.mk none (Op.store 96 (.tmp 6) _) _ _ _ _ :: _) _ _); refine wpList_store_whole rfl 96 (.tmp 6) (.tmp 13) rfl wr.heap.size rfl [.int .i64 (k : Int), .int .i64 x] rfl agg_field rfl _ _ bn rfl (by simp [Value.oneCell']) ?_; intro v1 b1 g1 s1; have h01 : Below wr.heap.size wr v1 := (below_alloc _ _).grown g1 (by simp) (fun k hk => by cases hk; exact Nat.le_refl _); have hw1 := HW.out.trans (h01.mono hzw); have hz1 := hw1.size; have k0 : v1.cell? ⟨wr.heap.size, 0, none⟩ = some (.int .i64 (k : Int)) := (by rw [b1.cell]; rfl); have k1 : v1.cell? ⟨wr.heap.size, 1, none⟩ = some (.int .i64 x) := (by rw [b1.cell]; rfl); clear g1 s1)
          | (go_at_call 40; refine (put_bad x HOK.out).mono ?_; rintro e w2 ⟨rfl, rfl⟩))
        go_ret2
        exact ⟨hw1, .inr ⟨fun h => HOK.out (h _ HME.out), rfl⟩⟩
    · obtain rfl : i = n := by omega
      have hii : ¬ (i : Int) < (i : Int) := by omega
      have ht : fl.take i = fl := List.take_of_length_le (by rw [HL.out]; exact Nat.le_refl _)
      have h1 := HOWN.out
      have h2 := HALL.out
      have h3 := HNN.out
      rw [ht] at h1 h2 h3
      have H1 := Lib.hid h1
      have H2 := Lib.hid h2
      have H3 := Lib.hid h3
      clear ht h1 h2 h3
      go_wp2_with fail
      go_ret2
      refine ⟨HW.out, .inl ⟨fun a b h => H2.out (a, b) h, Ao, co, by rw [← H3.out]; rfl, by rw [← H3.out]; exact H1.out⟩⟩
end Go.Proofs.Ytjjpifppdjpcnaa
