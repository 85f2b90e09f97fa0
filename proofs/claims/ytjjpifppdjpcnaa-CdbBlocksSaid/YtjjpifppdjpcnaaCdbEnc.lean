/-
  cdb.reserve and cdb.Encode (printed by wip/gen_cenc.py).
-/
import Derived.Test.YtjjpifppdjpcnaaCdb
import Derived.Test.YtjjpifppdjpcnaaCdbCat
namespace Go.Proofs.Ytjjpifppdjpcnaa
open Go.RowKit
set_option linter.unusedVariables false
set_option linter.unusedSimpArgs false
set_option maxRecDepth 100000

theorem aggCm : AggT Try.prog 56 11 := ⟨⟨_, Try.underlying56, rfl⟩, by kernel_rfl⟩
theorem aggRv : AggT Try.prog 54 6 := ⟨⟨_, Try.underlying54, rfl⟩, by kernel_rfl⟩
def stI (st : Bool) : Int := if st then 1 else 0
theorem okPut_two {x : Int} : okPut 2 x ↔ 0 ≤ x ∧ x ≤ 65535 := by
  unfold okPut sz
  simp
  omega
theorem okPut_eight {x : Int} : okPut 8 x := ⟨by simp [sz], .inl rfl⟩
def fl4 (kind unit block many : Int) : List (Nat × Int) := [(1, kind), (1, unit), (2, block), (2, many)]
def fl5 (op key new ty : Int) (st : Bool) : List (Nat × Int) := [(1, op), (8, key), (8, new), (1, ty), (1, stI st)]
theorem stI_put (st : Bool) : okPut 1 (stI st) := by cases st <;> exact okPut_one.2 (by decide)

/-- A command in form; its bytes. -/
def goodC (kind unit block many : Int) (m : Nat) (op who key new ty : Int) (st : Bool) : Prop :=
  1 ≤ kind ∧ kind ≤ 7 ∧ 0 ≤ unit ∧ unit ≤ 255 ∧ 0 ≤ block ∧ block ≤ 65535 ∧ 0 ≤ many ∧ many ≤ 65535 ∧ (kind = 2 → many ≤ 16 ∧ (m : Int) = 128 * many) ∧ (kind ≠ 2 → m = 0) ∧
    (kind ≠ 6 → op = 0 ∧ who = 0 ∧ key = 0 ∧ new = 0 ∧ ty = 0 ∧ st = false) ∧ (kind = 6 → who = 0 ∧ 0 ≤ op ∧ op ≤ 255 ∧ 0 ≤ key ∧ 0 ≤ new ∧ 0 ≤ ty ∧ ty ≤ 255)
def cmF (kind unit block many op key new ty : Int) (st : Bool) : List (Nat × Int) := if kind = 6 then fl4 kind unit block many ++ fl5 op key new ty st else fl4 kind unit block many
def cmB (kind unit block many op key new ty : Int) (st : Bool) (ds : List UInt8) : List UInt8 := fbytes (cmF kind unit block many op key new ty st) ++ ds

theorem fl4_put {kind unit block many : Int} : (∀ p ∈ fl4 kind unit block many, okPut p.1 p.2) ↔ (0 ≤ kind ∧ kind ≤ 255) ∧ (0 ≤ unit ∧ unit ≤ 255) ∧ (0 ≤ block ∧ block ≤ 65535) ∧ (0 ≤ many ∧ many ≤ 65535) := by
  constructor
  · intro h
    exact ⟨okPut_one.1 (h (1, kind) (by simp [fl4])), okPut_one.1 (h (1, unit) (by simp [fl4])), okPut_two.1 (h (2, block) (by simp [fl4])), okPut_two.1 (h (2, many) (by simp [fl4]))⟩
  · rintro ⟨h1, h2, h3, h4⟩ p hp
    simp only [fl4, List.mem_cons, List.not_mem_nil, or_false] at hp
    rcases hp with rfl | rfl | rfl | rfl
    · exact okPut_one.2 h1
    · exact okPut_one.2 h2
    · exact okPut_two.2 h3
    · exact okPut_two.2 h4
theorem fl9_put {kind unit block many op key new ty : Int} {st : Bool} : (∀ p ∈ fl4 kind unit block many ++ fl5 op key new ty st, okPut p.1 p.2) ↔ ((0 ≤ kind ∧ kind ≤ 255) ∧ (0 ≤ unit ∧ unit ≤ 255) ∧ (0 ≤ block ∧ block ≤ 65535) ∧ (0 ≤ many ∧ many ≤ 65535)) ∧ (0 ≤ op ∧ op ≤ 255) ∧ (0 ≤ ty ∧ ty ≤ 255) := by
  constructor
  · intro h
    exact ⟨fl4_put.1 (fun p hp => h p (List.mem_append_left _ hp)), okPut_one.1 (h (1, op) (by simp [fl4, fl5])), okPut_one.1 (h (1, ty) (by simp [fl4, fl5]))⟩
  · rintro ⟨h1, h2, h3⟩ p hp
    rcases List.mem_append.1 hp with hp | hp
    · exact fl4_put.2 h1 p hp
    · simp only [fl5, List.mem_cons, List.not_mem_nil, or_false] at hp
      rcases hp with rfl | rfl | rfl | rfl | rfl
      · exact okPut_one.2 h2
      · exact okPut_eight
      · exact okPut_eight
      · exact okPut_one.2 h3
      · exact stI_put st

theorem reserve_c (op who key new ty : Int) (st : Bool) (w : World) :
    Calls Try.prog 55 #[.agg #[.int .i64 op, .int .i64 who, .int .i64 key, .int .i64 new, .int .i64 ty, .bool st]] w fun e w' => ∃ g, e = .returned (.slice (some ⟨g, 0, none⟩) 5 5) ∧ OwF w' w.heap.size (some ⟨g, 0, none⟩) 5 5 (fcells (fl5 op key new ty st)) ∧ Below w.heap.size w w' := by
  have b2 := Blk.new (w.alloc (.cells #[.int .i64 op, .int .i64 who, .int .i64 key, .int .i64 new, .int .i64 ty, .bool st] 54)) 96 #[.int .i64 1, .int .i64 op, .int .i64 8, .int .i64 key, .int .i64 8, .int .i64 new, .int .i64 1, .int .i64 ty, .int .i64 1, .int .i64 (stI st)]
  have hrow : OwF ((w.alloc (.cells #[.int .i64 op, .int .i64 who, .int .i64 key, .int .i64 new, .int .i64 ty, .bool st] 54)).alloc (.cells #[.int .i64 1, .int .i64 op, .int .i64 8, .int .i64 key, .int .i64 8, .int .i64 new, .int .i64 1, .int .i64 ty, .int .i64 1, .int .i64 (stI st)] 96)) w.heap.size (some ⟨w.heap.size + 1, 0, none⟩) 5 5 (fcells (fl5 op key new ty st)) :=
    ⟨rfl, Nat.le_refl _, by simp [maxLen], fun _ => ⟨w.heap.size + 1, _, rfl, by omega, by rw [World.size_alloc] at b2; exact b2, by simp, rfl⟩⟩
  have HR := Lib.hid hrow
  clear b2 hrow
  cases st
  all_goals
    go_enter Try.func55, Try.ntmps55
    go_wp2_with fail
    go_ret
    exact ⟨_, rfl, HR.out, ((Below.refl _ _).alloc (Nat.le_refl _) _).alloc (by simp) _⟩

set_option maxHeartbeats 2000000 in
theorem cenc_no {w : World} {B : Nat} {A : Option Addr} {m c : Nat} {ds : List UInt8} (kind unit block many op who key new ty : Int) (st : Bool) (hd : SlB w B A m c ds) (hB : B ≤ w.heap.size) (hs : ¬ soundP kind many m op who key new ty st) :
    Calls Try.prog 27 #[.agg #[.int .i64 kind, .int .i64 unit, .int .i64 block, .int .i64 many, .slice A m c, .int .i64 op, .int .i64 who, .int .i64 key, .int .i64 new, .int .i64 ty, .bool st]] w fun e w' => e = .returned (.tuple #[.slice none 0 0, .iface 35 (.int .i64 11)]) ∧ Below w.heap.size w w' := by
  have HS := Lib.hid hs
  clear hs
  obtain ⟨g1, hg1⟩ : ∃ g, g = w.heap.size := ⟨_, rfl⟩
  obtain ⟨v, hv⟩ : ∃ v, v = w.alloc (.cells #[.int .i64 kind, .int .i64 unit, .int .i64 block, .int .i64 many, .slice A m c, .int .i64 op, .int .i64 who, .int .i64 key, .int .i64 new, .int .i64 ty, .bool st] 56) := ⟨_, rfl⟩
  have b1 : Blk v g1 56 #[.int .i64 kind, .int .i64 unit, .int .i64 block, .int .i64 many, .slice A m c, .int .i64 op, .int .i64 who, .int .i64 key, .int .i64 new, .int .i64 ty, .bool st] := by rw [hv, hg1]; exact Blk.new _ _ _
  have hbv : Below w.heap.size w v := by rw [hv]; exact below_alloc _ _
  have hz := hbv.size
  have hmx := hd.mx
  have hgv := b1.lt
  have HD := Lib.hid (hd.below (hbv.mono hB))
  have HV := Lib.hid hv
  have HG := Lib.hid hg1
  have HB1 := Lib.hid b1
  clear hv hg1 hd b1
  go_enter Try.func27, Try.ntmps27
  go_wp2_with (first
    | ((with_reducible show wpList _ _ _ (Oper.mk (some 7) (Op.load 56 _) _ _ _ _ :: _) _ _); rw [← HV.out, ← HG.out]; refine wpList_load_whole rfl 56 (.tmp 1) rfl g1 rfl #[.int .i64 kind, .int .i64 unit, .int .i64 block, .int .i64 many, .slice A m c, .int .i64 op, .int .i64 who, .int .i64 key, .int .i64 new, .int .i64 ty, .bool st] aggCm rfl _ HB1.out ?_)
    | (go_at_call 53; refine (sound_no kind unit block many op who key new ty st hmx HS.out).mono ?_; rintro e w1 ⟨rfl, hb1⟩; have hz1 := hb1.size; have b11 := HB1.out.below hb1 hgv; have hgw1 := b11.lt; have k0 : w1.cell? ⟨g1, 0, none⟩ = some (.int .i64 kind) := (by rw [b11.cell]; rfl); have k1 : w1.cell? ⟨g1, 1, none⟩ = some (.int .i64 unit) := (by rw [b11.cell]; rfl); have k2 : w1.cell? ⟨g1, 2, none⟩ = some (.int .i64 block) := (by rw [b11.cell]; rfl); have k3 : w1.cell? ⟨g1, 3, none⟩ = some (.int .i64 many) := (by rw [b11.cell]; rfl)))
  go_ret2
  exact ⟨rfl, hbv.trans (hb1.mono hz)⟩

set_option maxHeartbeats 2000000 in
theorem cenc_four {w : World} {B : Nat} {A : Option Addr} {m c : Nat} {ds : List UInt8} (kind unit block many op who key new ty : Int) (st : Bool) (hd : SlB w B A m c ds) (hB : B ≤ w.heap.size) (hs : soundP kind many m op who key new ty st) (hk : ¬ kind = 6) (hm : m ≤ 140737488351000) (hwf : (Lit.int .i64 kind).wf = true ∧ (Lit.int .i64 unit).wf = true ∧ (Lit.int .i64 block).wf = true ∧ (Lit.int .i64 many).wf = true) :
    Calls Try.prog 27 #[.agg #[.int .i64 kind, .int .i64 unit, .int .i64 block, .int .i64 many, .slice A m c, .int .i64 op, .int .i64 who, .int .i64 key, .int .i64 new, .int .i64 ty, .bool st]] w fun e w' => Below w.heap.size w w' ∧ (((∀ p ∈ fl4 kind unit block many, okPut p.1 p.2) ∧ ∃ A' c', e = .returned (.tuple #[.slice A' (6 + m) c', .nilIface]) ∧ OwB w' w.heap.size A' (6 + m) c' (fbytes (fl4 kind unit block many) ++ ds)) ∨ ((¬ ∀ p ∈ fl4 kind unit block many, okPut p.1 p.2) ∧ e = .returned (.tuple #[.slice none 0 0, .iface 35 (.int .i64 11)]))) := by
  have HS := Lib.hid hs
  have hk6 : (kind == 6) = false := by simpa using hk
  have HWF := Lib.hid hwf
  clear hs hk hwf
  obtain ⟨g1, hg1⟩ : ∃ g, g = w.heap.size := ⟨_, rfl⟩
  obtain ⟨v, hv⟩ : ∃ v, v = w.alloc (.cells #[.int .i64 kind, .int .i64 unit, .int .i64 block, .int .i64 many, .slice A m c, .int .i64 op, .int .i64 who, .int .i64 key, .int .i64 new, .int .i64 ty, .bool st] 56) := ⟨_, rfl⟩
  have b1 : Blk v g1 56 #[.int .i64 kind, .int .i64 unit, .int .i64 block, .int .i64 many, .slice A m c, .int .i64 op, .int .i64 who, .int .i64 key, .int .i64 new, .int .i64 ty, .bool st] := by rw [hv, hg1]; exact Blk.new _ _ _
  have hbv : Below w.heap.size w v := by rw [hv]; exact below_alloc _ _
  have hz := hbv.size
  have hmx := hd.mx
  have hgv := b1.lt
  have HD := Lib.hid (hd.below (hbv.mono hB))
  have HV := Lib.hid hv
  have HG := Lib.hid hg1
  have HB1 := Lib.hid b1
  clear hv hg1 hd b1
  go_enter Try.func27, Try.ntmps27
  go_wp2_with (first
    | ((with_reducible show wpList _ _ _ (Oper.mk (some 7) (Op.load 56 _) _ _ _ _ :: _) _ _); rw [← HV.out, ← HG.out]; refine wpList_load_whole rfl 56 (.tmp 1) rfl g1 rfl #[.int .i64 kind, .int .i64 unit, .int .i64 block, .int .i64 many, .slice A m c, .int .i64 op, .int .i64 who, .int .i64 key, .int .i64 new, .int .i64 ty, .bool st] aggCm rfl _ HB1.out ?_)
    | (go_at_call 53; refine (sound_yes kind unit block many op who key new ty st hmx HS.out).mono ?_; rintro e w1 ⟨rfl, hb1⟩; have hz1 := hb1.size; have b11 := HB1.out.below hb1 hgv; have hgw1 := b11.lt; have k0 : w1.cell? ⟨g1, 0, none⟩ = some (.int .i64 kind) := (by rw [b11.cell]; rfl); have k1 : w1.cell? ⟨g1, 1, none⟩ = some (.int .i64 unit) := (by rw [b11.cell]; rfl); have k2 : w1.cell? ⟨g1, 2, none⟩ = some (.int .i64 block) := (by rw [b11.cell]; rfl); have k3 : w1.cell? ⟨g1, 3, none⟩ = some (.int .i64 many) := (by rw [b11.cell]; rfl)))

  have hlit : Sl (w1.alloc (.cells #[.int .i64 1, .int .i64 kind, .int .i64 1, .int .i64 unit, .int .i64 2, .int .i64 block, .int .i64 2, .int .i64 many] 96)) (w1.heap.size + 1) 2 (some ⟨w1.heap.size, 0, none⟩) 4 4 (fcells (fl4 kind unit block many)) :=
    ⟨rfl, Nat.le_refl _, by simp [maxLen], fun _ => ⟨w1.heap.size, 0, rfl, Nat.lt_succ_self _, fun j u hu => by rw [(Blk.new w1 96 #[.int .i64 1, .int .i64 kind, .int .i64 1, .int .i64 unit, .int .i64 2, .int .i64 block, .int .i64 2, .int .i64 many]).cell, Nat.zero_add]; simpa [fcells, fl4] using hu⟩⟩
  have hba := hb1.alloc hz1 (.cells #[.int .i64 1, .int .i64 kind, .int .i64 1, .int .i64 unit, .int .i64 2, .int .i64 block, .int .i64 2, .int .i64 many] 96)
  refine (put_c hlit (by simp) rfl (by omega) (fun p hp => by
    obtain ⟨q1, q2, q3, q4⟩ := HWF.out
    simp only [fl4, List.mem_cons, List.not_mem_nil, or_false] at hp
    rcases hp with rfl | rfl | rfl | rfl
    · exact ⟨q1, by simp⟩
    · exact ⟨q2, by simp⟩
    · exact ⟨q3, by simp⟩
    · exact ⟨q4, by simp⟩)).mono ?_
  rw [show fsize (fl4 kind unit block many) = 6 from rfl]
  rintro e w3 ⟨hb3, ⟨hall, A3, c3, rfl, ho3⟩ | ⟨hnall, rfl⟩⟩
  · have hw3 := hba.trans (hb3.mono hba.size)
    have hz3 := hw3.size
    have d4 : w3.cell? ⟨g1, 4, none⟩ = some (.slice A m c) := by rw [(HB1.out.below hw3 hgv).cell]; rfl
    have HA := Lib.hid hall
    have ho3' : OwB w3 v.heap.size A3 6 c3 _ := Row.base_le ho3 hba.size
    have hd3 := HD.out.below (hw3.mono (Nat.le_trans hB hz))
    clear hall ho3
    go_wp2_with (at_builtin; refine wpList_append8 rfl (.tmp 41) (.tmp 43) rfl rfl ho3' rfl hd3 (by omega) hz3 (6 + m) rfl ?_; intro A4 c4 w4 h4 q4; have hb4 := q4.below ho3' hw3 (Nat.le_refl _) hz3)
    go_ret2
    exact ⟨hbv.trans (hb4.mono hz), .inl ⟨HA.out, A4, c4, rfl, Row.base_le h4 hz⟩⟩
  · have HA := Lib.hid hnall
    clear hnall
    go_wp2_with fail
    go_ret2
    exact ⟨hbv.trans ((hba.trans (hb3.mono hba.size)).mono hz), .inr ⟨HA.out, rfl⟩⟩

set_option maxHeartbeats 2000000 in
theorem cenc_six {w : World} {B : Nat} {A : Option Addr} {m c : Nat} {ds : List UInt8} (unit block many op who key new ty : Int) (st : Bool) (hd : SlB w B A m c ds) (hB : B ≤ w.heap.size) (hs : soundP 6 many m op who key new ty st) (hm : m ≤ 140737488351000) (hwf : (Lit.int .i64 6).wf = true ∧ (Lit.int .i64 unit).wf = true ∧ (Lit.int .i64 block).wf = true ∧ (Lit.int .i64 many).wf = true) (hwf2 : (Lit.int .i64 op).wf = true ∧ (Lit.int .i64 key).wf = true ∧ (Lit.int .i64 new).wf = true ∧ (Lit.int .i64 ty).wf = true) :
    Calls Try.prog 27 #[.agg #[.int .i64 6, .int .i64 unit, .int .i64 block, .int .i64 many, .slice A m c, .int .i64 op, .int .i64 who, .int .i64 key, .int .i64 new, .int .i64 ty, .bool st]] w fun e w' => Below w.heap.size w w' ∧ (((∀ p ∈ fl4 6 unit block many ++ fl5 op key new ty st, okPut p.1 p.2) ∧ ∃ A' c', e = .returned (.tuple #[.slice A' (25 + m) c', .nilIface]) ∧ OwB w' w.heap.size A' (25 + m) c' (fbytes (fl4 6 unit block many ++ fl5 op key new ty st) ++ ds)) ∨ ((¬ ∀ p ∈ fl4 6 unit block many ++ fl5 op key new ty st, okPut p.1 p.2) ∧ e = .returned (.tuple #[.slice none 0 0, .iface 35 (.int .i64 11)]))) := by
  have HS := Lib.hid hs
  have HWF := Lib.hid hwf
  have HWF2 := Lib.hid hwf2
  clear hs hwf hwf2
  obtain ⟨g1, hg1⟩ : ∃ g, g = w.heap.size := ⟨_, rfl⟩
  obtain ⟨v, hv⟩ : ∃ v, v = w.alloc (.cells #[.int .i64 6, .int .i64 unit, .int .i64 block, .int .i64 many, .slice A m c, .int .i64 op, .int .i64 who, .int .i64 key, .int .i64 new, .int .i64 ty, .bool st] 56) := ⟨_, rfl⟩
  have b1 : Blk v g1 56 #[.int .i64 6, .int .i64 unit, .int .i64 block, .int .i64 many, .slice A m c, .int .i64 op, .int .i64 who, .int .i64 key, .int .i64 new, .int .i64 ty, .bool st] := by rw [hv, hg1]; exact Blk.new _ _ _
  have hbv : Below w.heap.size w v := by rw [hv]; exact below_alloc _ _
  have hz := hbv.size
  have hmx := hd.mx
  have hgv := b1.lt
  have HD := Lib.hid (hd.below (hbv.mono hB))
  have HV := Lib.hid hv
  have HG := Lib.hid hg1
  have HB1 := Lib.hid b1
  clear hv hg1 hd b1
  go_enter Try.func27, Try.ntmps27
  go_wp2_with (first
    | ((with_reducible show wpList _ _ _ (Oper.mk (some 7) (Op.load 56 _) _ _ _ _ :: _) _ _); rw [← HV.out, ← HG.out]; refine wpList_load_whole rfl 56 (.tmp 1) rfl g1 rfl #[.int .i64 6, .int .i64 unit, .int .i64 block, .int .i64 many, .slice A m c, .int .i64 op, .int .i64 who, .int .i64 key, .int .i64 new, .int .i64 ty, .bool st] aggCm rfl _ HB1.out ?_)
    | (go_at_call 53; refine (sound_yes 6 unit block many op who key new ty st hmx HS.out).mono ?_; rintro e w1 ⟨rfl, hb1⟩; have hz1 := hb1.size; have b11 := HB1.out.below hb1 hgv; have hgw1 := b11.lt; have k0 : w1.cell? ⟨g1, 0, none⟩ = some (.int .i64 6) := (by rw [b11.cell]; rfl); have k1 : w1.cell? ⟨g1, 1, none⟩ = some (.int .i64 unit) := (by rw [b11.cell]; rfl); have k2 : w1.cell? ⟨g1, 2, none⟩ = some (.int .i64 block) := (by rw [b11.cell]; rfl); have k3 : w1.cell? ⟨g1, 3, none⟩ = some (.int .i64 many) := (by rw [b11.cell]; rfl))
    | ((with_reducible show wpList _ _ _ (Oper.mk (some 29) (Op.load 54 _) _ _ _ _ :: _) _ _); refine wpList_load_agg rfl 54 (.tmp 28) rfl g1 5 rfl #[.int .i64 op, .int .i64 who, .int .i64 key, .int .i64 new, .int .i64 ty, .bool st] aggRv rfl (fun j v hv => by rw [(b11.below (below_alloc w1 (.cells #[.int .i64 1, .int .i64 6, .int .i64 1, .int .i64 unit, .int .i64 2, .int .i64 block, .int .i64 2, .int .i64 many] 96)) b11.lt).cell]; revert hv; match j with | 0 => exact id | 1 => exact id | 2 => exact id | 3 => exact id | 4 => exact id | 5 => exact id | _ + 6 => simp) ?_)
    | (go_at_call 55; refine (reserve_c op who key new ty st _).mono ?_; rintro e w2 ⟨g2, rfl, ho2, hb2⟩; have hal := below_alloc w1 (.cells #[.int .i64 1, .int .i64 6, .int .i64 1, .int .i64 unit, .int .i64 2, .int .i64 block, .int .i64 2, .int .i64 many] 96); have hb12 := hal.trans (hb2.mono hal.size); have hw2 := hb1.trans (hb12.mono hz1); have hz2 := hw2.size; have bl2 := (Blk.new w1 96 #[.int .i64 1, .int .i64 6, .int .i64 1, .int .i64 unit, .int .i64 2, .int .i64 block, .int .i64 2, .int .i64 many]).below hb2 (by simp); have hlt2 := hb12.size; have hlA := below_alloc w2 (.cells #[.slice (some ⟨w1.heap.size, 0, none⟩) 4 4, .slice (some ⟨g2, 0, none⟩) 5 5] 97))
    | (go_at_call 54; refine (concatF_c (B := (w2.alloc (.cells #[.slice (some ⟨w1.heap.size, 0, none⟩) 4 4, .slice (some ⟨g2, 0, none⟩) 5 5] 97)).heap.size) (xs := fcells (fl4 6 unit block many)) (ys := fcells (fl5 op key new ty st)) ⟨rfl, Nat.le_refl _, by simp [maxLen], fun _ => ⟨w2.heap.size, 0, rfl, by simp, fun j u hu => by rw [(Blk.new w2 97 #[.slice (some ⟨w1.heap.size, 0, none⟩) 4 4, .slice (some ⟨g2, 0, none⟩) 5 5]).cell, Nat.zero_add]; simpa using hu⟩⟩ ⟨rfl, Nat.le_refl _, by simp [maxLen], fun _ => ⟨w1.heap.size, 0, rfl, by simp; omega, fun j u hu => by rw [(bl2.alloc _).cell, Nat.zero_add]; simpa [fcells, fl4] using hu⟩⟩ (Row.sl (Row.alloc ho2 _)) (by simp [fcells, fl4, Value.oneCell']) (by simp [fcells, fl5, Value.oneCell']) (Nat.le_refl _)).mono ?_; rintro e w4 ⟨A4, c4, rfl, ho4, hb4⟩; have hw4 := hw2.trans ((hlA.trans (hb4.mono hlA.size)).mono hz2); have hz4 := hw4.size))
  have hlit := Row.sl ho4
  have happ : fcells (fl4 6 unit block many) ++ fcells (fl5 op key new ty st) = fcells (fl4 6 unit block many ++ fl5 op key new ty st) := rfl
  rw [happ] at hlit
  refine (put_c hlit (Nat.le_refl _) rfl (by omega) (fun p hp => by
    obtain ⟨q1, q2, q3, q4⟩ := HWF.out
    obtain ⟨r1, r2, r3, r4⟩ := HWF2.out
    simp only [fl4, fl5, List.cons_append, List.nil_append, List.mem_cons, List.not_mem_nil, or_false] at hp
    rcases hp with rfl | rfl | rfl | rfl | rfl | rfl | rfl | rfl | rfl
    · exact ⟨q1, by simp⟩
    · exact ⟨q2, by simp⟩
    · exact ⟨q3, by simp⟩
    · exact ⟨q4, by simp⟩
    · exact ⟨r1, by simp⟩
    · exact ⟨r2, by simp⟩
    · exact ⟨r3, by simp⟩
    · exact ⟨r4, by simp⟩
    · exact ⟨by cases st <;> rfl, by simp⟩)).mono ?_
  rw [show fsize (fl4 6 unit block many ++ fl5 op key new ty st) = 25 from rfl]
  rintro e w3 ⟨hb3, ⟨hall, A3, c3, rfl, ho3⟩ | ⟨hnall, rfl⟩⟩
  · have hw3 := hw4.trans (hb3.mono hw4.size)
    have hz3 := hw3.size
    have d4 : w3.cell? ⟨g1, 4, none⟩ = some (.slice A m c) := by rw [(HB1.out.below hw3 hgv).cell]; rfl
    have HA := Lib.hid hall
    have ho3' : OwB w3 v.heap.size A3 25 c3 _ := Row.base_le ho3 hw4.size
    have hd3 := HD.out.below (hw3.mono (Nat.le_trans hB hz))
    clear hall ho3
    go_wp2_with (at_builtin; refine wpList_append8 rfl (.tmp 41) (.tmp 43) rfl rfl ho3' rfl hd3 (by omega) hz3 (25 + m) rfl ?_; intro A4 c4 w4 h4 q4; have hb4 := q4.below ho3' hw3 (Nat.le_refl _) hz3)
    go_ret2
    exact ⟨hbv.trans (hb4.mono hz), .inl ⟨HA.out, A4, c4, rfl, Row.base_le h4 hz⟩⟩
  · have HA := Lib.hid hnall
    clear hnall
    go_wp2_with fail
    go_ret2
    exact ⟨hbv.trans ((hw4.trans (hb3.mono hw4.size)).mono hz), .inr ⟨HA.out, rfl⟩⟩

theorem good_iff {kind unit block many : Int} {m : Nat} {op who key new ty : Int} {st : Bool} : goodC kind unit block many m op who key new ty st ↔ soundP kind many m op who key new ty st ∧ ∀ p ∈ cmF kind unit block many op key new ty st, okPut p.1 p.2 := by
  constructor
  · rintro ⟨h1, h7, u1, u2, b1, b2, m1, m2, a2, a0, az, a6⟩
    refine ⟨⟨h1, h7, fun k => ?_, a0, az, fun k => ⟨(a6 k).1, (a6 k).2.2.2.1, (a6 k).2.2.2.2.1⟩⟩, ?_⟩
    · obtain ⟨q1, q2⟩ := a2 k
      refine ⟨q1, ?_⟩
      rw [show wrap64 (128 * many) = 128 * many from by unfold wrap64; omega]
      exact q2
    · unfold cmF
      split
      · rename_i k
        obtain ⟨_, o1, o2, _, _, t1, t2⟩ := a6 k
        exact fl9_put.2 ⟨⟨⟨by omega, by omega⟩, ⟨u1, u2⟩, ⟨b1, b2⟩, ⟨m1, m2⟩⟩, ⟨o1, o2⟩, ⟨t1, t2⟩⟩
      · exact fl4_put.2 ⟨⟨by omega, by omega⟩, ⟨u1, u2⟩, ⟨b1, b2⟩, ⟨m1, m2⟩⟩
  · rintro ⟨⟨h1, h7, a2, a0, az, a6⟩, hp⟩
    have hq : ((0 ≤ kind ∧ kind ≤ 255) ∧ (0 ≤ unit ∧ unit ≤ 255) ∧ (0 ≤ block ∧ block ≤ 65535) ∧ (0 ≤ many ∧ many ≤ 65535)) ∧ (kind = 6 → (0 ≤ op ∧ op ≤ 255) ∧ (0 ≤ ty ∧ ty ≤ 255)) := by
      unfold cmF at hp
      split at hp
      · exact ⟨(fl9_put.1 hp).1, fun _ => (fl9_put.1 hp).2⟩
      · rename_i k
        exact ⟨fl4_put.1 hp, fun h => absurd h k⟩
    obtain ⟨⟨_, ⟨u1, u2⟩, ⟨b1, b2⟩, ⟨m1, m2⟩⟩, h6⟩ := hq
    refine ⟨h1, h7, u1, u2, b1, b2, m1, m2, fun k => ?_, a0, az, fun k => ?_⟩
    · obtain ⟨q1, q2⟩ := a2 k
      refine ⟨q1, ?_⟩
      unfold wrap64 at q2
      omega
    · obtain ⟨⟨o1, o2⟩, t1, t2⟩ := h6 k
      obtain ⟨w0, k0, n0⟩ := a6 k
      exact ⟨w0, o1, o2, k0, n0, t1, t2⟩
theorem cenc_c {w : World} {B : Nat} {A : Option Addr} {m c : Nat} {ds : List UInt8} (kind unit block many op who key new ty : Int) (st : Bool) (hd : SlB w B A m c ds) (hB : B ≤ w.heap.size) (hm : m ≤ 140737488351000) (hwf : (Lit.int .i64 kind).wf = true ∧ (Lit.int .i64 unit).wf = true ∧ (Lit.int .i64 block).wf = true ∧ (Lit.int .i64 many).wf = true) (hwf2 : (Lit.int .i64 op).wf = true ∧ (Lit.int .i64 key).wf = true ∧ (Lit.int .i64 new).wf = true ∧ (Lit.int .i64 ty).wf = true) :
    Calls Try.prog 27 #[.agg #[.int .i64 kind, .int .i64 unit, .int .i64 block, .int .i64 many, .slice A m c, .int .i64 op, .int .i64 who, .int .i64 key, .int .i64 new, .int .i64 ty, .bool st]] w fun e w' => Below w.heap.size w w' ∧ ((goodC kind unit block many m op who key new ty st ∧ ∃ A' N c', e = .returned (.tuple #[.slice A' N c', .nilIface]) ∧ OwB w' w.heap.size A' N c' (cmB kind unit block many op key new ty st ds)) ∨ (¬ goodC kind unit block many m op who key new ty st ∧ e = .returned (.tuple #[.slice none 0 0, .iface 35 (.int .i64 11)]))) := by
  by_cases hs : soundP kind many m op who key new ty st
  · by_cases hk : kind = 6
    · subst hk
      refine (cenc_six unit block many op who key new ty st hd hB hs hm hwf hwf2).mono ?_
      rintro e w' ⟨hb, ⟨ha, A', c', rfl, ho⟩ | ⟨hn, rfl⟩⟩
      · exact ⟨hb, .inl ⟨good_iff.2 ⟨hs, by rw [cmF, if_pos rfl]; exact ha⟩, A', _, c', rfl, by rw [cmB, cmF, if_pos rfl]; exact ho⟩⟩
      · exact ⟨hb, .inr ⟨fun h => hn (by have := (good_iff.1 h).2; rwa [cmF, if_pos rfl] at this), rfl⟩⟩
    · refine (cenc_four kind unit block many op who key new ty st hd hB hs hk hm hwf).mono ?_
      rintro e w' ⟨hb, ⟨ha, A', c', rfl, ho⟩ | ⟨hn, rfl⟩⟩
      · exact ⟨hb, .inl ⟨good_iff.2 ⟨hs, by rw [cmF, if_neg hk]; exact ha⟩, A', _, c', rfl, by rw [cmB, cmF, if_neg hk]; exact ho⟩⟩
      · exact ⟨hb, .inr ⟨fun h => hn (by have := (good_iff.1 h).2; rwa [cmF, if_neg hk] at this), rfl⟩⟩
  · refine (cenc_no kind unit block many op who key new ty st hd hB hs).mono ?_
    rintro e w' ⟨rfl, hb⟩
    exact ⟨hb, .inr ⟨fun h => hs (good_iff.1 h).1, rfl⟩⟩

end Go.Proofs.Ytjjpifppdjpcnaa
