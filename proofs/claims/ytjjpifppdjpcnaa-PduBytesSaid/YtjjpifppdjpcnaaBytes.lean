/-
  pdu.Bytes: the bytes of a list of frames, each list its own.
-/
import Derived.Test.YtjjpifppdjpcnaaPduDec
namespace Go.Proofs.Ytjjpifppdjpcnaa
open Go.RowKit
set_option linter.unusedVariables false
set_option linter.unusedSimpArgs false
set_option maxRecDepth 100000

/-- A frame as it lies in a slice. -/
structure FrV where
  k : Int
  n : Int
  x : Int
  A : Option Addr
  m : Nat
  c : Nat
  ds : List UInt8
def FrV.cells (f : FrV) : List Value := [.int .i64 f.k, .int .i64 f.n, .int .i64 f.x, .slice f.A f.m f.c]
/-- A slice of frames. -/
def SlF (w : World) (B : Nat) (A : Option Addr) (n c : Nat) (fs : List FrV) : Prop := Sl w B 4 A n c (fs.map FrV.cells).flatten ∧ fs.length = n ∧ ∀ f ∈ fs, SlB w B f.A f.m f.c f.ds
theorem SlF.below {w w' : World} {B : Nat} {A : Option Addr} {n c : Nat} {fs : List FrV} (h : SlF w B A n c fs) (hb : Below B w w') : SlF w' B A n c fs := ⟨h.1.below hb, h.2.1, fun f hf => (h.2.2 f hf).below hb⟩
theorem SlF.get {w : World} {B : Nat} {A : Option Addr} {n c : Nat} {fs : List FrV} (h : SlF w B A n c fs) {i : Nat} {f : FrV} (hi : fs[i]? = some f) :
    ∃ b off, A = some ⟨b, off, none⟩ ∧ b < B ∧ (∀ j v, f.cells[j]? = some v → w.cell? ⟨b, off + i * 4 + j, none⟩ = some v) ∧ SlB w B f.A f.m f.c f.ds := by
  have hlt : i < fs.length := (List.getElem?_eq_some_iff.1 hi).1
  have hn := h.2.1
  have hc := h.1.2.1
  obtain ⟨b, off, e, hb, hj⟩ := h.1.at_ (by omega)
  refine ⟨b, off, e, hb, fun j v hv => ?_, h.2.2 f (List.mem_of_getElem? hi)⟩
  have hj4 : j < 4 := (List.getElem?_eq_some_iff.1 hv).1
  rw [Nat.add_assoc]
  refine hj _ _ ?_
  rw [flatten_get 4 (fs.map FrV.cells) (fun r hr => by obtain ⟨f', _, rfl⟩ := List.mem_map.1 hr; rfl) i j f.cells (by rw [List.getElem?_map, hi]; rfl) hj4]
  exact hv
theorem frames_of {w : World} : ∀ rows : List (List Value), (∀ r ∈ rows, r.length = 4 ∧ Rds w (.cons (.int .i64) (.cons (.int .i64) (.cons (.int .i64) (.cons (.slice (.int .u8) 1 1) .nil)))) r) → ∃ fs : List FrV, rows = fs.map FrV.cells ∧ ∀ f ∈ fs, SlB w w.heap.size f.A f.m f.c f.ds ∧ f.c ≤ 140737488351232
  | [], _ => ⟨[], rfl, by simp⟩
  | r :: rows, h => by
    obtain ⟨fs, hf, ho⟩ := frames_of rows fun x hx => h x (List.mem_cons_of_mem _ hx)
    obtain ⟨_, R0⟩ := h r (List.mem_cons_self ..)
    obtain ⟨_, _, rfl, r0, _, _, rfl, r1, _, _, rfl, r2, _, _, rfl, r3, rfl⟩ := R0
    obtain ⟨kind, rfl, _⟩ := r0
    obtain ⟨n, rfl, _⟩ := r1
    obtain ⟨code, rfl, _⟩ := r2
    obtain ⟨A, m, c, ds, rfl, w3, y3⟩ := Rds.bytes r3
    refine ⟨⟨kind, n, code, A, m, c, ds⟩ :: fs, by rw [hf]; rfl, fun f hf => ?_⟩
    rcases List.mem_cons.1 hf with rfl | hf
    · exact ⟨w3, y3⟩
    · exact ho f hf

def enc1 (f : FrV) : Option (List UInt8) := if okF f.k f.n f.x f.m then some (frB f.k f.n f.x f.ds) else none
/-- The bytes of those in form, in order. -/
def encs (fs : List FrV) : List (List UInt8) := fs.filterMap enc1
theorem encs_snoc (fs : List FrV) (f : FrV) : encs (fs ++ [f]) = encs fs ++ (match enc1 f with | some b => [b] | none => []) := by
  rw [encs, List.filterMap_append]
  congr 1
  cases h : enc1 f with
  | none => simp [List.filterMap_cons, h]
  | some b => simp [List.filterMap_cons, h]
theorem len_encs (fs : List FrV) : (encs fs).length ≤ fs.length := List.length_filterMap_le _ _

/-- Lists of the call's own. -/
def Owns (w : World) (base : Nat) (ls : List Lst) (rows : List (List UInt8)) : Prop := ls.length = rows.length ∧ ∀ (i : Nat) (l : Lst) (r : List UInt8), ls[i]? = some l → rows[i]? = some r → OwB w base l.A l.n l.c r
theorem Owns.of {w : World} {base : Nat} {ls : List Lst} {rows : List (List UInt8)} (h : Owns w base ls rows) {i : Nat} {l : Lst} (hi : ls[i]? = some l) : ∃ r, rows[i]? = some r ∧ OwB w base l.A l.n l.c r := by
  have hlt := (List.getElem?_eq_some_iff.1 hi).1
  have hl := h.1
  exact ⟨rows[i]'(by omega), List.getElem?_eq_getElem _, h.2 i l _ hi (List.getElem?_eq_getElem _)⟩
theorem Owns.below {w w' : World} {base : Nat} {ls : List Lst} {rows : List (List UInt8)} (h : Owns w base ls rows) (hb : Below w.heap.size w w') : Owns w' base ls rows := ⟨h.1, fun i l r h1 h2 => (h.2 i l r h1 h2).below hb⟩
theorem Owns.grown {w w' : World} {base base' n c size : Nat} {e : TypeId} {A : Option Addr} {xs : List Value} {ls : List Lst} {rows : List (List UInt8)} (h : Owns w base ls rows) (hr : Row w base' e size A n c xs) (hne : 5 ≠ e) (hg : w.grownBy w' (wrote A c)) : Owns w' base ls rows :=
  ⟨h.1, fun i l r h1 h2 => Row.keepRow (h.2 i l r h1 h2) hg (Row.other (h.2 i l r h1 h2) hr hne)⟩
theorem Owns.snoc {w : World} {base : Nat} {ls : List Lst} {rows : List (List UInt8)} (h : Owns w base ls rows) {l : Lst} {r : List UInt8} (hl : OwB w base l.A l.n l.c r) : Owns w base (ls ++ [l]) (rows ++ [r]) := by
  refine ⟨by simp [h.1], fun i l' r' h1 h2 => ?_⟩
  have hlen := h.1
  rw [List.getElem?_append] at h1 h2
  by_cases hi : i < ls.length
  · rw [if_pos hi] at h1
    rw [if_pos (by omega)] at h2
    exact h.2 i l' r' h1 h2
  · rw [if_neg hi] at h1
    rw [if_neg (by omega)] at h2
    have hz : i - ls.length = 0 := by have := (List.getElem?_eq_some_iff.1 h1).1; simp at this; omega
    have hz2 : i - rows.length = 0 := by omega
    rw [hz] at h1
    rw [hz2] at h2
    simp at h1 h2
    subst h1 h2
    exact hl
def Fars (ls : List Lst) : Prop := ∀ (i j : Nat) (l m : Lst), i ≠ j → ls[i]? = some l → ls[j]? = some m → l.far m
theorem Fars.snoc {ls : List Lst} {l : Lst} (h : Fars ls) (hl : ∀ (i : Nat) (l' : Lst), ls[i]? = some l' → l.far l') : Fars (ls ++ [l]) := by
  intro i j a b hne h1 h2
  rw [List.getElem?_append] at h1 h2
  have last : ∀ {k : Nat} {x : Lst}, ([l] : List Lst)[k]? = some x → k = 0 ∧ x = l := fun {k x} h => by
    have hk := (List.getElem?_eq_some_iff.1 h).1
    obtain rfl : k = 0 := by simp at hk; omega
    simpa [eq_comm] using h
  by_cases hi : i < ls.length
  · rw [if_pos hi] at h1
    by_cases hj : j < ls.length
    · rw [if_pos hj] at h2
      exact h i j a b hne h1 h2
    · rw [if_neg hj] at h2
      obtain ⟨_, rfl⟩ := last h2
      exact Lst.far_symm (hl i a h1)
  · rw [if_neg hi] at h1
    obtain ⟨z1, rfl⟩ := last h1
    by_cases hj : j < ls.length
    · rw [if_pos hj] at h2
      exact hl j b h2
    · rw [if_neg hj] at h2
      obtain ⟨z2, _⟩ := last h2
      omega

set_option maxHeartbeats 2000000 in
theorem bytes_c {w : World} {B : Nat} {A : Option Addr} {n c : Nat} {fs : List FrV} (hf : SlF w B A n c fs) (hB : B ≤ w.heap.size) (hn : n ≤ 1048576) :
    Calls Try.prog 21 #[.slice A n c] w fun e w' => ∃ A3 c3 ls, e = .returned (.slice A3 ls.length c3) ∧ Row w' w.heap.size 22 1 A3 ls.length c3 (ls.map Lst.val) ∧ Owns w' w.heap.size ls (encs fs) ∧ Fars ls ∧ Below w.heap.size w w' := by
  have hfl := hf.2.1
  have hcm : c ≤ 9223372036854775807 := hf.1.2.2.1
  have hnc : n ≤ c := hf.1.2.1
  have HF := Lib.hid hf
  have HFL := Lib.hid hfl
  obtain ⟨i0, hI, hy0, hy1, hy2⟩ := info_parts slice_info
  clear hf hfl
  go_enter Try.func21, Try.ntmps21
  go_wp2_with fail
  go_loopw [3, 10] (fun v3 v10 wr => ∃ (i k : Nat) (ls : List Lst) (Ao : Option Addr) (co : Nat), i ≤ n ∧ k ≤ i ∧ v10 = .int .i64 (i : Int) ∧ v3 = .slice Ao k co ∧ ls.length = k ∧ Row wr w.heap.size 22 1 Ao k co (ls.map Lst.val) ∧ Owns wr w.heap.size ls (encs (fs.take i)) ∧ Fars ls ∧ Below w.heap.size w wr) (fun _ v _ => n - (intOf v).toNat)
  case atStart => exact ⟨0, 0, [], none, 0, by omega, by omega, rfl, rfl, rfl, Row.nil _ _ _ _ _, ⟨rfl, by simp⟩, fun i j l m _ h => by simp at h, Below.refl _ _⟩
  case round =>
    obtain ⟨i, k, ls, Ao, co, hi, hki, rfl, rfl, hlk, hrow, hown, hfar, hw⟩ := hrel
    have hzw := hw.size
    have hcap : co ≤ 9223372036854775807 := hrow.2.2.1
    have hko : k ≤ co := hrow.2.1
    by_cases hlt : i < n
    · have hii : (i : Int) < (n : Int) := by omega
      have hi0 : (0 : Int) ≤ (i : Int) := by omega
      obtain ⟨f, hfi⟩ : ∃ f, fs[i]? = some f := ⟨_, List.getElem?_eq_getElem (by rw [HFL.out]; exact hlt)⟩
      have htk : fs.take (i + 1) = fs.take i ++ [f] := by rw [List.take_add_one, hfi]; rfl
      have hsn := encs_snoc (fs.take i) f
      rw [← htk] at hsn
      obtain ⟨b, off, rfl, hbB, hcell, hds⟩ := (HF.out.below (hw.mono hB)).get hfi
      obtain ⟨fk, fn, fx, fA, fm, fc, fds⟩ := f
      simp only [FrV.cells] at hcell hds
      have HC := Lib.hid hcell
      have HSN := Lib.hid hsn
      have HROW := Lib.hid hrow
      have HOWN := Lib.hid hown
      have HFAR := Lib.hid hfar
      have HW := Lib.hid hw
      have HDS := Lib.hid hds
      have HLK := Lib.hid hlk
      have bn := Blk.new wr 24 #[.int .i64 0, .int .i64 0, .int .i64 0, .slice none 0 0]
      clear hcell hsn htk hfi hrow hown hfar hw hds hlk
      by_cases hok : okF fk fn fx fm
      · have HE := Lib.hid (show enc1 ⟨fk, fn, fx, fA, fm, fc, fds⟩ = some (frB fk fn fx fds) from if_pos hok)
        have hm4 : fm ≤ 4096 := hok.2.2.2.2.2.2
        have HOK := Lib.hid hok
        clear hok
        go_wp2_with (first
          | ((with_reducible show wpList _ _ _ (Oper.mk (some 13) (Op.load 24 _) _ _ _ _ :: _) _ _); refine wpList_load_agg rfl 24 (.tmp 12) rfl b (off + i * 4) rfl #[.int .i64 fk, .int .i64 fn, .int .i64 fx, .slice fA fm fc] aggFr rfl (fun j v hv => HC.out j v (by simpa using hv)) ?_)
          | ((with_reducible show wpList _ _ _ (Oper.mk (some 5) (Op.alloc 24) _ _ _ _ :: _) _ _); refine wpList_alloc_agg rfl 24 rfl #[.int .i64 0, .int .i64 0, .int .i64 0, .slice none 0 0] zeroFr ?_)
          | ((with_reducible show wpList _ _ _ (Oper.mk none (Op.store 24 (.tmp 5) _) _ _ _ _ :: _) _ _); refine wpList_store_whole rfl 24 (.tmp 5) (.tmp 13) rfl wr.heap.size rfl [.int .i64 fk, .int .i64 fn, .int .i64 fx, .slice fA fm fc] rfl aggFr rfl _ _ bn rfl (by simp [Value.oneCell']) ?_; intro v1 b1 g1 s1; have h01 : Below wr.heap.size wr v1 := (below_alloc _ _).grown g1 (by simp) (fun k hk => by cases hk; exact Nat.le_refl _); have hw1 := HW.out.trans (h01.mono hzw); have hz1 := hw1.size; clear g1 s1)
          | ((with_reducible show wpList _ _ _ (Oper.mk (some 15) (Op.load 24 _) _ _ _ _ :: _) _ _); refine wpList_load_whole rfl 24 (.tmp 5) rfl wr.heap.size rfl #[.int .i64 fk, .int .i64 fn, .int .i64 fx, .slice fA fm fc] aggFr rfl _ b1 ?_)
          | (go_at_call 13; refine (encode_ok fk fn fx (HDS.out.below (h01.mono (Nat.le_trans hB hzw))) (Nat.le_trans hB hz1) HOK.out).mono ?_; rintro e w2 ⟨A2, c2, rfl, ho2, hb2⟩; have hw2 := hw1.trans (hb2.mono hz1); have hz2 := hw2.size; have hr2 := (HROW.out.below h01).below hb2; have hr2a := Row.alloc hr2 (.cells #[.slice A2 (8 + fm) c2] 22); have hwa := hw2.alloc hz2 (.cells #[.slice A2 (8 + fm) c2] 22); have hza := hwa.size; have hlit : Sl (w2.alloc (.cells #[.slice A2 (8 + fm) c2] 22)) (w2.heap.size + 1) 1 (some ⟨w2.heap.size, 0, none⟩) 1 1 [.slice A2 (8 + fm) c2] := ⟨rfl, Nat.le_refl _, by simp [maxLen], fun _ => ⟨w2.heap.size, 0, rfl, Nat.lt_succ_self _, fun j u hu => by rw [(Blk.new w2 22 #[.slice A2 (8 + fm) c2]).cell, Nat.zero_add]; simpa using hu⟩⟩)
          | (at_builtin; refine wpList_append_row rfl (.tmp 21) (.tmp 23) 37 rfl Try.underlying37 hI hy0 hy1 hy2 rfl rfl hr2a rfl hlit (by simp [Value.oneCell']) (by omega) (by simp only [maxLen]; omega) hza ?_; intro A9 c9 w9 h9 q9))
        have hw9 := q9.below hr2a hwa (Nat.le_refl _) hza
        have ho9 := (((HOWN.out.below h01).below hb2).below (below_alloc w2 (.cells #[.slice A2 (8 + fm) c2] 22))).grown hr2a (by decide) q9.grown
        have hl2 := Row.keepRow (OwB.alloc ho2 (.cells #[.slice A2 (8 + fm) c2] 22)) q9.grown (Row.other (OwB.alloc ho2 _) hr2a (by decide))
        have hfar9 : Fars (ls ++ [⟨A2, 8 + fm, c2⟩]) := HFAR.out.snoc fun j l' hj => by
          obtain ⟨r, _, hor⟩ := HOWN.out.of hj
          refine far_of_base ho2 fun g hg => ?_
          rcases Row.wrote_lt (hor.below h01) with h1 | ⟨g', _, h1, _, h2, _⟩
          · rw [h1] at hg; cases hg
          · rw [h1] at hg; cases hg; exact h2
        have hsn := HSN.out
        rw [HE.out] at hsn
        simp only at hsn
        exact ⟨⟨i + 1, k + 1, ls ++ [⟨A2, 8 + fm, c2⟩], A9, c9, by omega, by omega, by go_num, rfl, by rw [List.length_append, HLK.out]; rfl, by rw [List.map_append]; exact h9, by rw [hsn]; exact ho9.snoc (Row.base_le hl2 hz1), hfar9, hw9⟩, by simp [intOf]; omega⟩
      · have HE := Lib.hid (show enc1 ⟨fk, fn, fx, fA, fm, fc, fds⟩ = none from if_neg hok)
        have HOK := Lib.hid hok
        clear hok
        go_wp2_with (first
          | ((with_reducible show wpList _ _ _ (Oper.mk (some 13) (Op.load 24 _) _ _ _ _ :: _) _ _); refine wpList_load_agg rfl 24 (.tmp 12) rfl b (off + i * 4) rfl #[.int .i64 fk, .int .i64 fn, .int .i64 fx, .slice fA fm fc] aggFr rfl (fun j v hv => HC.out j v (by simpa using hv)) ?_)
          | ((with_reducible show wpList _ _ _ (Oper.mk (some 5) (Op.alloc 24) _ _ _ _ :: _) _ _); refine wpList_alloc_agg rfl 24 rfl #[.int .i64 0, .int .i64 0, .int .i64 0, .slice none 0 0] zeroFr ?_)
          | ((with_reducible show wpList _ _ _ (Oper.mk none (Op.store 24 (.tmp 5) _) _ _ _ _ :: _) _ _); refine wpList_store_whole rfl 24 (.tmp 5) (.tmp 13) rfl wr.heap.size rfl [.int .i64 fk, .int .i64 fn, .int .i64 fx, .slice fA fm fc] rfl aggFr rfl _ _ bn rfl (by simp [Value.oneCell']) ?_; intro v1 b1 g1 s1; have h01 : Below wr.heap.size wr v1 := (below_alloc _ _).grown g1 (by simp) (fun k hk => by cases hk; exact Nat.le_refl _); have hw1 := HW.out.trans (h01.mono hzw); have hz1 := hw1.size; clear g1 s1)
          | ((with_reducible show wpList _ _ _ (Oper.mk (some 15) (Op.load 24 _) _ _ _ _ :: _) _ _); refine wpList_load_whole rfl 24 (.tmp 5) rfl wr.heap.size rfl #[.int .i64 fk, .int .i64 fn, .int .i64 fx, .slice fA fm fc] aggFr rfl _ b1 ?_)
          | (go_at_call 13; refine (encode_bad fk fn fx (HDS.out.below (h01.mono (Nat.le_trans hB hzw))) (Nat.le_trans hB hz1) HOK.out).mono ?_; rintro e w2 ⟨rfl, hb2⟩; have hw2 := hw1.trans (hb2.mono hz1); have hr2 := (HROW.out.below h01).below hb2))
        have ho9 := (HOWN.out.below h01).below hb2
        have hsn := HSN.out
        rw [HE.out] at hsn
        simp only [List.append_nil] at hsn
        exact ⟨⟨i + 1, k, ls, Ao, co, by omega, by omega, by go_num, rfl, HLK.out, hr2, by rw [hsn]; exact ho9, HFAR.out, hw2⟩, by simp [intOf]; omega⟩
    · obtain rfl : i = n := by omega
      have hii : ¬ (i : Int) < (i : Int) := by omega
      have ht : fs.take i = fs := List.take_of_length_le (by rw [HFL.out]; exact Nat.le_refl _)
      rw [ht] at hown
      subst hlk
      clear ht
      go_wp2_with fail
      go_ret
      exact ⟨Ao, co, ls, rfl, hrow, hown, hfar, hw⟩
end Go.Proofs.Ytjjpifppdjpcnaa
