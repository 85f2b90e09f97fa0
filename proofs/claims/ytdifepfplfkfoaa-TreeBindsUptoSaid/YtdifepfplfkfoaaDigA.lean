/-
  Several texts of plain lemmas and contracts, one behind the other: Rotr, Oct, Sha, Sched, ShaK, ShaT, Piece8.
-/
import Derived.Test.YtdifepfplfkfoaaBase
import Derived.StillTailTactics

/-
  Rotations and sums of 32 bits: the words of the walk as UInt32; digest.rotr.
-/
section
namespace Go.Proofs.Ytdifepfplfkfoaa
open Go.RowKit
set_option linter.unusedVariables false
set_option maxRecDepth 100000

/-- A rotation right. -/
def rotR (x : UInt32) (n : Nat) : UInt32 := UInt32.ofNat (x.toNat / 2 ^ n) ||| UInt32.ofNat (x.toNat * 2 ^ (32 - n))

theorem xor32 (x y : UInt32) : bits .xor .u32 (x.toNat : Int) (y.toNat : Int) = ((x ^^^ y).toNat : Int) := by
  rw [u32_xor_nat _ _ (UInt32.toNat_lt x) (UInt32.toNat_lt y), UInt32.toNat_xor]
theorem or32 (x y : UInt32) : bits .or .u32 (x.toNat : Int) (y.toNat : Int) = ((x ||| y).toNat : Int) := by
  rw [u32_or_nat _ _ (UInt32.toNat_lt x) (UInt32.toNat_lt y), UInt32.toNat_or]
theorem and32 (x y : UInt32) : bits .and .u32 (x.toNat : Int) (y.toNat : Int) = ((x &&& y).toNat : Int) := by
  rw [u32_and_nat _ _ (UInt32.toNat_lt x) (UInt32.toNat_lt y), UInt32.toNat_and]
theorem add32 (x y : UInt32) : IntKind.u32.wrap ((x.toNat : Int) + (y.toNat : Int)) = ((x + y).toNat : Int) := by
  rw [IntKind.wrap_u32', UInt32.toNat_add]; omega
theorem shr32 (x : UInt32) (n : Nat) : ((x.toNat : Int)) / (2 : Int) ^ n = ((UInt32.ofNat (x.toNat / 2 ^ n)).toNat : Int) := by
  have hx := UInt32.toNat_lt x
  have : x.toNat / 2 ^ n ≤ x.toNat := Nat.div_le_self _ _
  rw [UInt32.toNat_ofNat', Nat.mod_eq_of_lt (by omega)]
  rfl

theorem and31 : ∀ m : Fin 31, bits .and .u64 (IntKind.u64.wrap (-((m.val : Int) + 1))) 31 = ((31 - m.val : Nat) : Int) := by decide +kernel

theorem rotl_c (x : UInt32) (n : Int) (h1 : 1 ≤ n) (h2 : n ≤ 31) (w : World) :
    Calls Try.prog 78 #[.int .u32 (x.toNat : Int), .int .i64 (-n)] w fun e w' => e = .returned (.int .u32 ((rotR x n.toNat).toNat : Int)) ∧ w = w' := by
  have hx := UInt32.toNat_lt x
  obtain ⟨m, rfl⟩ : ∃ m : Nat, n = (m : Int) := ⟨n.toNat, by omega⟩
  obtain ⟨k, hk⟩ : ∃ k : Nat, k = 32 - m := ⟨_, rfl⟩
  have hk1 : 1 ≤ k := by omega
  have hk2 : k ≤ 31 := by omega
  have ha : bits .and .u64 (IntKind.u64.wrap (-(m : Int))) 31 = (k : Int) := by
    have := and31 ⟨m - 1, by omega⟩
    simp only at this
    rw [show ((m - 1 : Nat) : Int) + 1 = (m : Int) from by omega, show 31 - (m - 1) = k from by omega] at this
    exact this
  have hm : (32 : Int) - (k : Int) = (m : Int) := by omega
  have HK := Lib.hid hk
  clear hk
  go_enter Try.func78, Try.ntmps78
  go_wp2_with fail
  go_ret
  refine ⟨?_, rfl⟩
  have e1 : (x.toNat : Int) * (2 : Int) ^ k % 4294967296 = ((UInt32.ofNat (x.toNat * 2 ^ k)).toNat : Int) := by
    rw [UInt32.toNat_ofNat', Int.natCast_emod, Int.natCast_mul, Int.natCast_pow]
    rfl
  rw [shr32, e1, or32, rotR, Int.toNat_natCast, UInt32.or_comm, ← HK.out]
  rfl

theorem rotr_c (x : UInt32) (n : Int) (h1 : 1 ≤ n) (h2 : n ≤ 31) (w : World) :
    Calls Try.prog 72 #[.int .u32 (x.toNat : Int), .int .i64 n] w fun e w' => e = .returned (.int .u32 ((rotR x n.toNat).toNat : Int)) ∧ w = w' := by
  go_enter Try.func72, Try.ntmps72
  go_wp2_with (go_at_call 78; refine (rotl_c x n h1 h2 _).mono ?_; rintro e w' ⟨rfl, rfl⟩)
  go_ret
  exact ⟨rfl, rfl⟩
end Go.Proofs.Ytdifepfplfkfoaa
end

/-
  octets.Big: the number that bytes are. Slices of a block known whole.
-/
section
namespace Go.Proofs.Ytdifepfplfkfoaa
open Go.RowKit
set_option linter.unusedVariables false
set_option maxRecDepth 100000

/-- A cut of a block of bytes known whole reads as its bytes. -/
theorem SlB.ofBlk {w : World} {g : Nat} {t : TypeId} {bs : List UInt8} (h : Blk w g t (arr8 bs)) {lo hi c B : Nat} (hl : lo ≤ hi) (hh : hi ≤ bs.length) (hc : hi - lo ≤ c) (hm : c ≤ maxLen) (hB : g < B) :
    SlB w B (some ⟨g, lo, none⟩) (hi - lo) c ((bs.drop lo).take (hi - lo)) := by
  refine ⟨?_, hc, hm, fun _ => ⟨g, lo, rfl, hB, fun j u hu => ?_⟩⟩
  · rw [List.length_map, List.length_take, List.length_drop, Nat.min_eq_left (by omega), Nat.mul_one]
  · rw [h.cell, arr8_get]
    rw [List.getElem?_map, List.getElem?_take] at hu
    split at hu
    · rw [List.getElem?_drop] at hu
      exact hu
    · cases hu

/-- A cut of an array of bytes, the bounds as the walk spells them. -/
theorem arr_cut_run {P : Program} {T e : TypeId} {N : Nat} (hT : P.underlying T = some (.array N e)) (hs : ∀ W, (sizeOf e).run P W = .ok 1 W) (g lo hi m c : Nat) (L H : Int) (hL : L = lo) (hH : H = hi) (h1 : lo ≤ hi) (h2 : hi ≤ N) (h3 : lo < N) (hm : hi - lo = m) (hc : N - lo = c) (W : World) :
    (Instr.sliceAt T (.pointer (some ⟨g, 0, none⟩)) (some (.int .i64 L)) (some (.int .i64 H)) none).run P W = .ok (.slice (some ⟨g, lo, none⟩) m c) W := by
  subst hL hH hm hc
  have ea : P.arrayLen T = N := by simp [Program.arrayLen, hT]
  have ee : P.elem T = e := by simp [Program.elem, hT]
  have h := run_sliceAt_array_lh (P := P) W T ⟨g, 0, none⟩ (by rw [ea, ee]; exact hT) .i64 .i64 (lo : Int) (hi : Int) (by omega) (by omega) (by rw [ea]; omega)
  rw [h, ee, hs, ea]
  simp [Result.andThen, slicedAt, Addr.add, show ¬ N = lo from by omega]
  omega
theorem arr_all_run {P : Program} {T e : TypeId} {N : Nat} (hT : P.underlying T = some (.array N e)) (hs : ∀ W, (sizeOf e).run P W = .ok 1 W) (hN : 0 < N) (g : Nat) (W : World) :
    (Instr.sliceAt T (.pointer (some ⟨g, 0, none⟩)) none none none).run P W = .ok (.slice (some ⟨g, 0, none⟩) N N) W := by
  have ea : P.arrayLen T = N := by simp [Program.arrayLen, hT]
  have ee : P.elem T = e := by simp [Program.elem, hT]
  have h := run_sliceAt_array_all (P := P) W T ⟨g, 0, none⟩ (by rw [ea, ee]; exact hT)
  rw [h, ee, hs, ea]
  simp [Result.andThen, slicedAt, Addr.add]

theorem u64_or_byte (n : Nat) (x : Nat) (hx : x < 256) : bits .or .u64 (u64v n * 256 % 18446744073709551616) (x : Int) = u64v (n * 256 + x) := by
  have h1 : u64v n * 256 % 18446744073709551616 = ((n * 256 % 18446744073709551616 : Nat) : Int) := by
    rw [u64v, wrap_u64]; omega
  rw [h1, u64_or_nat _ _ (by omega) (by omega)]
  have h2 : n * 256 % 18446744073709551616 = 256 * (n % 72057594037927936) := by omega
  rw [h2, show 256 * (n % 72057594037927936) = 2 ^ 8 * (n % 72057594037927936) from rfl, Nat.two_pow_add_eq_or_of_lt (by omega : x < 2 ^ 8) (n % 72057594037927936) |>.symm]
  rw [u64v, wrap_u64]
  omega

theorem big_c {w : World} {B : Nat} {A : Option Addr} {n c : Nat} {bs : List UInt8} (ha : SlB w B A n c bs) (hn : 0 < n) :
    Calls Try.prog 73 #[.slice A n c] w fun e w' => e = .returned (.int .u64 (u64v (bigN bs))) ∧ w = w' := by
  have hl := Lib.hid ha.len
  have hm := ha.mx
  obtain ⟨b, off, rfl, _, hj⟩ := ha.at_ (by have := ha.le; omega)
  have HJ := Lib.hid hj
  clear ha hj
  go_enter Try.func73, Try.ntmps73
  go_wp2_with fail
  go_loop [3, 8] (fun s i => ∃ k : Nat, k ≤ n ∧ i = .int .i64 k ∧ s = .int .u64 (u64v (bigN (bs.take k)))) (fun _ i => n - (intOf i).toNat)
  case atStart => exact ⟨0, by omega, rfl, rfl⟩
  case round =>
    obtain ⟨k, hk, rfl, rfl⟩ := hrel
    by_cases hlt : k < n
    · obtain ⟨x, hx⟩ : ∃ x, bs[k]? = some x := ⟨bs[k]'(by have := hl.out; omega), List.getElem?_eq_getElem _⟩
      have hc := HJ.out k x hx
      have HX := Lib.hid hx
      have hi : (k : Int) < (n : Int) := by omega
      have hxl := UInt8.toNat_lt x
      clear hx
      go_wp2_with fail
      go_round
      case rel =>
        refine ⟨k + 1, by omega, by go_num, ?_⟩
        rw [take_snoc' bs k x HX.out, bigN_snoc, ← u64_or_byte _ _ hxl]
        first | rfl | simp
      case measure => simp [intOf]; omega
    · obtain rfl : k = n := by omega
      go_wp2_with fail
      go_ret
      exact ⟨by rw [List.take_of_length_le (by rw [hl.out]; exact Nat.le_refl _)]; rfl, rfl⟩
end Go.Proofs.Ytdifepfplfkfoaa
end

/-
  The digest in plain words: schedules, and the laws on lists of words that the walks use. No function of the program is named here.
-/
section
namespace Go.Proofs.Ytdifepfplfkfoaa
open Go.RowKit
set_option linter.unusedVariables false

/-- A shift right. -/
def shR (x : UInt32) (n : Nat) : UInt32 := UInt32.ofNat (x.toNat / 2 ^ n)
def sig0 (x : UInt32) : UInt32 := rotR x 7 ^^^ rotR x 18 ^^^ shR x 3
def sig1 (x : UInt32) : UInt32 := rotR x 17 ^^^ rotR x 19 ^^^ shR x 10
/-- Word number k of a piece. -/
def wordAt (p : List UInt8) (k : Nat) : UInt32 := UInt32.ofNat (bigN ((p.drop (4 * k)).take 4))
/-- The next word of a schedule. -/
def nextW (p : List UInt8) (w : List UInt32) (k : Nat) : UInt32 :=
  if k < 16 then wordAt p k else w[k - 16]?.getD 0 + w[k - 7]?.getD 0 + sig0 (w[k - 15]?.getD 0) + sig1 (w[k - 2]?.getD 0)
/-- The first k words of a schedule. -/
def schedTo (p : List UInt8) : Nat → List UInt32
  | 0 => []
  | k + 1 => schedTo p k ++ [nextW p (schedTo p k) k]
theorem len_schedTo (p : List UInt8) (k : Nat) : (schedTo p k).length = k := by
  induction k with
  | zero => rfl
  | succ k ih => simp [schedTo, ih]
def sched (p : List UInt8) : List UInt32 := schedTo p 64
theorem len_sched (p : List UInt8) : (sched p).length = 64 := len_schedTo p 64

def z32 (n : Nat) : List UInt32 := List.replicate n 0
theorem len_z32 (n : Nat) : (z32 n).length = n := by simp [z32]
theorem b32_def (x : UInt32) : b32 x = .int .u32 (x.toNat : Int) := rfl
/-- The first k of n words stand, the others are noughts: the next one is stored. -/
theorem arr32_next (ws : List UInt32) (n k : Nat) (hl : ws.length = k) (hk : k < n) (x : UInt32) :
    (arr32 (ws ++ z32 (n - k))).setIfInBounds k (.int .u32 (x.toNat : Int)) = arr32 ((ws ++ [x]) ++ z32 (n - (k + 1))) := by
  subst hl
  rw [arr32, arr32, ← b32_def, List.setIfInBounds_toArray, ← List.map_set]
  congr 2
  rw [List.set_append_right _ _ (by omega), Nat.sub_self, show n - ws.length = (n - (ws.length + 1)) + 1 from by omega, z32, List.replicate_succ, List.set_cons_zero]
  simp [z32]
theorem arr32_at (ws : List UInt32) (j : Nat) (h : j < ws.length) (rest : List UInt32) : (arr32 (ws ++ rest))[j]? = some (.int .u32 ((ws[j]?.getD 0).toNat : Int)) := by
  rw [arr32_get, List.getElem?_append_left h, List.getElem?_eq_getElem h]
  rfl
theorem word_lt (bs : List UInt8) (h : bs.length ≤ 4) : bigN bs < 4294967296 := by
  match bs, h with
  | [], _ => decide
  | [a], _ => have := UInt8.toNat_lt a; simp [bigN]; omega
  | [a, b], _ => have := UInt8.toNat_lt a; have := UInt8.toNat_lt b; simp [bigN]; omega
  | [a, b, c], _ => have := UInt8.toNat_lt a; have := UInt8.toNat_lt b; have := UInt8.toNat_lt c; simp [bigN]; omega
  | [a, b, c, d], _ => have := UInt8.toNat_lt a; have := UInt8.toNat_lt b; have := UInt8.toNat_lt c; have := UInt8.toNat_lt d; simp [bigN]; omega
  | _ :: _ :: _ :: _ :: _ :: _, h => simp at h
theorem word_conv (bs : List UInt8) (h : bs.length ≤ 4) : IntKind.u32.wrap (u64v (bigN bs)) = ((UInt32.ofNat (bigN bs)).toNat : Int) := by
  have := word_lt bs h
  rw [IntKind.wrap_u32', u64v, wrap_u64, UInt32.toNat_ofNat']
  omega
theorem shr32' (x : UInt32) (n : Nat) : ((x.toNat : Int)) / (2 : Int) ^ n = ((shR x n).toNat : Int) := shr32 x n
end Go.Proofs.Ytdifepfplfkfoaa
end

/-
  digest.Schedule: a piece's words.
-/
section
namespace Go.Proofs.Ytdifepfplfkfoaa
open Go.RowKit
set_option linter.unusedVariables false
set_option maxRecDepth 100000

theorem agg24 : AggT Try.prog 95 64 := ⟨⟨_, Try.underlying95, rfl⟩, by kernel_rfl⟩
theorem zero24 : (Try.prog.info? 95).bind (·.zero) = some (.agg (arr32 (z32 64))) := by kernel_rfl

theorem still_of {P : Program} {f : FuncId} {args : Array Value} {w : World} {v : Value} (h : Calls P f args w fun e w' => e = .returned v ∧ w = w') : Calls P f args w fun e w' => e = .returned v ∧ w' = w :=
  h.mono fun _ _ ⟨a, b⟩ => ⟨a, b.symm⟩
theorem sum4 (a b c d : UInt32) : ((a.toNat : Int) + (b.toNat : Int) + (c.toNat : Int) + (d.toNat : Int)) % 4294967296 = ((a + b + c + d).toNat : Int) := by
  rw [UInt32.toNat_add, UInt32.toNat_add, UInt32.toNat_add]; omega
theorem size1 (w : World) : (sizeOf 5).run Try.prog w = .ok 1 w := by kernel_rfl

set_option maxHeartbeats 1000000 in
theorem schedule_c (ps : List UInt8) (hl : ps.length = 64) (w : World) :
    Calls Try.prog 55 #[.agg (arr8 ps)] w fun e w' => e = .returned (.agg (arr32 (sched ps))) ∧ Below w.heap.size w w' := by
  have HL := Lib.hid hl
  have b1 := Blk.new w 81 (arr8 ps)
  have b2 := Blk.new (w.alloc (.cells (arr8 ps) 81)) 95 (arr32 (z32 64))
  have b3 := Blk.new ((w.alloc (.cells (arr8 ps) 81)).alloc (.cells (arr32 (z32 64)) 95)) 95 (arr32 (z32 64))
  simp only [World.size_alloc] at b2 b3
  have hb : Below w.heap.size w (((w.alloc (.cells (arr8 ps) 81)).alloc (.cells (arr32 (z32 64)) 95)).alloc (.cells (arr32 (z32 64)) 95)) := (((Below.refl _ _).alloc (Nat.le_refl _) _).alloc (by simp) _).alloc (by simp; omega) _
  have B1 := (b1.alloc (.cells (arr32 (z32 64)) 95)).alloc (.cells (arr32 (z32 64)) 95)
  have B2 := b2.alloc (.cells (arr32 (z32 64)) 95)
  clear hl b1 b2
  go_enter Try.func55, Try.ntmps55
  go_wp2_with (first
    | ((with_reducible show wpList _ _ _ (Oper.mk _ (Op.alloc 95) _ _ _ _ :: _) _ _); refine wpList_alloc_agg rfl 95 rfl (arr32 (z32 64)) zero24 ?_))
  obtain ⟨w3, hw3⟩ : ∃ w3 : World, w3 = (((w.alloc (.cells (arr8 ps) 81)).alloc (.cells (arr32 (z32 64)) 95)).alloc (.cells (arr32 (z32 64)) 95)) := ⟨_, rfl⟩
  rw [← hw3] at hb B1 B2 b3 ⊢
  clear hw3
  go_loopw [7] (fun i wr => ∃ k : Nat, k ≤ 64 ∧ i = .int .i64 k ∧ Blk wr w.heap.size 81 (arr8 ps) ∧ Blk wr (w.heap.size + 1) 95 (arr32 (z32 64)) ∧
      Blk wr (w.heap.size + 2) 95 (arr32 (schedTo ps k ++ z32 (64 - k))) ∧ Below w.heap.size w wr) (fun i _ => 64 - (intOf i).toNat)
  case atStart => exact ⟨0, by omega, rfl, B1, B2, b3, hb⟩
  case round =>
    clear B1 B2 b3 hb
    obtain ⟨k, hk, rfl, B1, B2, B3, hb⟩ := hrel
    have hz := hb.size
    have hls := Lib.hid (len_schedTo ps k)
    by_cases hlt : k < 64
    · by_cases h16 : k < 16
      · have hs1 := Lib.hid (SlB.ofBlk B1 (lo := 4 * k) (hi := 4 * k + 4) (c := 64 - 4 * k) (by omega) (by rw [HL.out]; omega) (by omega) (by simp only [maxLen]; omega) (Nat.lt_succ_self _))
        have hlen : ((ps.drop (4 * k)).take 4).length ≤ 4 := List.length_take_le _ _
        have hwc := Lib.hid (word_conv _ hlen)
        have hf := B3.frozen k
        have hcut := arr_cut_run (P := Try.prog) (T := 81) Try.underlying81 size1 w.heap.size (4 * k) (4 * k + 4) 4 (64 - 4 * k) (4 * (k : Int)) (4 * (k : Int) + 4) (by omega) (by omega) (by omega) (by omega) (by omega) (by omega) rfl
        have hc : wr.cell? ⟨w.heap.size + 2, k, none⟩ = some (.int .u32 0) := by
          rw [B3.cell, arr32_get, List.getElem?_append_right (by rw [hls.out]; exact Nat.le_refl _), hls.out, Nat.sub_self, z32, List.getElem?_replicate, if_pos (by omega)]
          rfl
        have HB1 := Lib.hid B1
        have HB2 := Lib.hid B2
        have HB3 := Lib.hid B3
        have HB := Lib.hid hb
        clear B1 B2 B3 hb hlen
        go_wp2_with fail
        refine (big_c (show SlB wr _ _ 4 (64 - 4 * k) _ from (by have := hs1.out; rwa [show 4 * k + 4 - 4 * k = 4 from by omega] at this)) (by omega)).mono ?_
        rintro e w4 ⟨rfl, rfl⟩
        go_wp2_with fail
        go_roundw
        case rel =>
          have e : u64v (bigN (List.take 4 (List.drop (4 * k) ps))) % 4294967296 = ((nextW ps (schedTo ps k) k).toNat : Int) := by
            rw [nextW, if_pos h16, wordAt, ← hwc.out, IntKind.wrap_u32']
          rw [e]
          refine ⟨k + 1, by omega, by go_num, HB1.out.far (by simp; omega) _, HB2.out.far (by simp) _, ?_, HB.out.setCell (by simp; omega) _⟩
          show Blk _ _ _ (arr32 ((schedTo ps k ++ [nextW ps (schedTo ps k) k]) ++ z32 (64 - (k + 1))))
          rw [← arr32_next _ 64 k hls.out hlt]
          exact HB3.out.set_ k _
        case measure => simp [intOf]; omega
      · have h16' : (16 : Int) ≤ (k : Int) := by omega
        have get : ∀ j, j < k → wr.cell? ⟨w.heap.size + 2, j, none⟩ = some (.int .u32 (((schedTo ps k)[j]?.getD 0).toNat : Int)) := fun j hj => by
          rw [B3.cell]; exact arr32_at _ j (by rw [hls.out]; exact hj) _
        have c15 := get (k - 15) (by omega)
        have c2 := get (k - 2) (by omega)
        have c16 := get (k - 16) (by omega)
        have c7 := get (k - 7) (by omega)
        have hf := B3.frozen k
        have hc : wr.cell? ⟨w.heap.size + 2, k, none⟩ = some (.int .u32 0) := by
          rw [B3.cell, arr32_get, List.getElem?_append_right (by rw [hls.out]; exact Nat.le_refl _), hls.out, Nat.sub_self, z32, List.getElem?_replicate, if_pos (by omega)]
          rfl
        have hnx : nextW ps (schedTo ps k) k = (schedTo ps k)[k - 16]?.getD 0 + (schedTo ps k)[k - 7]?.getD 0 + sig0 ((schedTo ps k)[k - 15]?.getD 0) + sig1 ((schedTo ps k)[k - 2]?.getD 0) := by rw [nextW, if_neg h16]
        have HN := Lib.hid hnx
        have HB1 := Lib.hid B1
        have HB2 := Lib.hid B2
        have HB3 := Lib.hid B3
        have HB := Lib.hid hb
        generalize (schedTo ps k)[k - 16]?.getD 0 = x16 at *
        generalize (schedTo ps k)[k - 15]?.getD 0 = x15 at *
        generalize (schedTo ps k)[k - 7]?.getD 0 = x7 at *
        generalize (schedTo ps k)[k - 2]?.getD 0 = x2 at *
        clear B1 B2 B3 hb get hnx
        go_wp2_with fail
        go_quiet (fail)
        go_wp2_with fail
        have t1 : IntKind.i64.wrap ((k : Int) - 16) = (k : Int) - 16 := IntWalk.i64_in _ (by omega)
        have t2 : IntKind.i64.wrap ((k : Int) - 7) = (k : Int) - 7 := IntWalk.i64_in _ (by omega)
        have t3 : (0 : Int) ≤ (k : Int) - 16 := by omega
        have t4 : (0 : Int) ≤ (k : Int) - 7 := by omega
        have t5 : (k : Int) - 16 < 64 := by omega
        have t6 : (k : Int) - 7 < 64 := by omega
        have t9 : (7 : Int) ≤ (k : Int) := by omega
        have t7 : ((k : Int) - 16).toNat = k - 16 := by omega
        have t8 : ((k : Int) - 7).toNat = k - 7 := by omega
        refine wp_region_still_tail 29 (by kernel_rfl) (by kernel_rfl) ?_
        simp only [List.take_succ_cons, List.take_zero, List.drop_succ_cons, List.drop_zero]
        change wpStill _ _ (wr.drewN nq).drew (fun a' => wpList _ _ _ _ a' (wr.drewN nq).drew) _ _
        obtain ⟨w2, hw2⟩ : ∃ w2, w2 = (wr.drewN nq).drew := ⟨_, rfl⟩
        rw [← hw2]
        have d16 : w2.cell? ⟨w.heap.size + 2, k - 16, none⟩ = some (.int .u32 (x16.toNat : Int)) := by rw [hw2]; exact c16
        have d7 : w2.cell? ⟨w.heap.size + 2, k - 7, none⟩ = some (.int .u32 (x7.toNat : Int)) := by rw [hw2]; exact c7
        have df : w2.frozen? ⟨w.heap.size + 2, k, none⟩ = false := by rw [hw2]; exact hf
        have dc : w2.cell? ⟨w.heap.size + 2, k, none⟩ = some (.int .u32 0) := by rw [hw2]; exact hc
        have DB1 : Hid (Blk w2 w.heap.size 81 (arr8 ps)) := Lib.hid (by rw [hw2]; exact HB1.out)
        have DB2 : Hid (Blk w2 (w.heap.size + 1) 95 (arr32 (z32 64))) := Lib.hid (by rw [hw2]; exact HB2.out)
        have DB3 : Hid (Blk w2 (w.heap.size + 2) 95 (arr32 (schedTo ps k ++ z32 (64 - k)))) := Lib.hid (by rw [hw2]; exact HB3.out)
        have DB : Hid (Below w.heap.size w w2) := Lib.hid (by rw [hw2]; exact (below_drewN HB.out nq).drew)
        clear hw2 c15 c2 c16 c7 hf hc
        repeat still_step
        clear t1 t2 t3 t4 t5 t6 t7 t8 t9
        still_call still_of (rotr_c x15 7 (by omega) (by omega) _)
        repeat still_step
        still_call still_of (rotr_c x15 18 (by omega) (by omega) _)
        repeat still_step
        still_call still_of (rotr_c x2 17 (by omega) (by omega) _)
        repeat still_step
        still_call still_of (rotr_c x2 19 (by omega) (by omega) _)
        repeat still_step
        refine wpStill_nil ?_
        go_wp2_with fail
        go_roundw
        case rel =>
          have e : ((x16.toNat : Int) + (x7.toNat : Int) + bits .xor .u32 (bits .xor .u32 ((rotR x15 7).toNat : Int) ((rotR x15 18).toNat : Int)) ((x15.toNat : Int) / 8) +
              bits .xor .u32 (bits .xor .u32 ((rotR x2 17).toNat : Int) ((rotR x2 19).toNat : Int)) ((x2.toNat : Int) / 1024)) % 4294967296 = ((nextW ps (schedTo ps k) k).toNat : Int) := by
            rw [show (x15.toNat : Int) / 8 = ((shR x15 3).toNat : Int) from shr32' x15 3, show (x2.toNat : Int) / 1024 = ((shR x2 10).toNat : Int) from shr32' x2 10, xor32, xor32, xor32, xor32, sum4, HN.out]
            rfl
          rw [e]
          refine ⟨k + 1, by omega, by go_num, DB1.out.far (by simp; omega) _, DB2.out.far (by simp) _, ?_, DB.out.setCell (by simp; omega) _⟩
          show Blk _ _ _ (arr32 ((schedTo ps k ++ [nextW ps (schedTo ps k) k]) ++ z32 (64 - (k + 1))))
          rw [← arr32_next _ 64 k hls.out hlt]
          exact DB3.out.set_ k _
        case measure => simp [intOf]; omega
    · obtain rfl : k = 64 := by omega
      have B3' : Blk wr (w.heap.size + 2) 95 (arr32 (sched ps)) := by simpa [z32, sched] using B3
      have HB := Lib.hid hb
      clear B3 hb
      go_wp2_with (first
        | ((with_reducible show wpList _ _ _ (Oper.mk (some 60) (Op.load 95 _) _ _ _ _ :: _) _ _); refine wpList_load_whole rfl 95 (.tmp 3) rfl (w.heap.size + 2) rfl (arr32 (sched ps)) agg24 (by rw [size_arr32, len_sched]) 95 B3' ?_)
        | ((with_reducible show wpList _ _ _ (Oper.mk none (Op.store 95 _ _) _ _ _ _ :: _) _ _); refine wpList_store32 rfl 95 (.tmp 2) (.tmp 60) rfl (w.heap.size + 1) rfl (sched ps) rfl agg24 (len_sched _) _ _ B2 (by rw [size_arr32, len_z32]) ?_; intro w5 hb5 hg5 hs5))
      refine bodyPost_ret (results_cell_one rfl _ (w.heap.size + 1) _ (arr32 (sched ps)) agg24 (by rw [size_arr32, len_sched]) rfl hb5) rfl ⟨rfl, ?_⟩
      exact HB.out.grown hg5 hz (fun k hk => by cases hk; exact Nat.le_succ _)
end Go.Proofs.Ytdifepfplfkfoaa
end

/-
  The digest's constants and its beginning; a schedule taken, in plain words.
-/
section
namespace Go.Proofs.Ytdifepfplfkfoaa
open Go.RowKit
set_option linter.unusedVariables false
set_option maxRecDepth 100000

def K64 : List UInt32 := [1116352408, 1899447441, 3049323471, 3921009573, 961987163, 1508970993, 2453635748, 2870763221, 3624381080, 310598401, 607225278, 1426881987, 1925078388, 2162078206, 2614888103, 3248222580, 3835390401, 4022224774, 264347078, 604807628, 770255983, 1249150122, 1555081692, 1996064986, 2554220882, 2821834349, 2952996808, 3210313671, 3336571891, 3584528711, 113926993, 338241895, 666307205, 773529912, 1294757372, 1396182291, 1695183700, 1986661051, 2177026350, 2456956037, 2730485921, 2820302411, 3259730800, 3345764771, 3516065817, 3600352804, 4094571909, 275423344, 430227734, 506948616, 659060556, 883997877, 958139571, 1322822218, 1537002063, 1747873779, 1955562222, 2024104815, 2227730452, 2361852424, 2428436474, 2756734187, 3204031479, 3329325298]
def H8 : List UInt32 := [1779033703, 3144134277, 1013904242, 2773480762, 1359893119, 2600822924, 528734635, 1541459225]
theorem len_K64 : K64.length = 64 := rfl
theorem len_H8 : H8.length = 8 := rfl
theorem agg26 : AggT Try.prog 88 8 := ⟨⟨_, Try.underlying88, rfl⟩, by kernel_rfl⟩
theorem zero26 : (Try.prog.info? 88).bind (·.zero) = some (.agg (arr32 (z32 8))) := by kernel_rfl

set_option maxHeartbeats 400000 in
theorem constants_c (w : World) : Calls Try.prog 71 #[] w fun e w' => e = .returned (.agg (arr32 K64)) ∧ Below w.heap.size w w' := by
  have b1 := Blk.new w 95 (arr32 (z32 64))
  go_enter Try.func71, Try.ntmps71
  go_wp2_with (first
    | ((with_reducible show wpList _ _ _ (Oper.mk _ (Op.alloc 95) _ _ _ _ :: _) _ _); refine wpList_alloc_agg rfl 95 rfl (arr32 (z32 64)) zero24 ?_)
    | ((with_reducible show wpList _ _ _ (Oper.mk _ (Op.build 95 _) _ _ _ _ :: _) _ _); refine wpList_build rfl 95 _ rfl _ rfl (.agg (arr32 K64)) (by kernel_rfl) ?_)
    | ((with_reducible show wpList _ _ _ (Oper.mk none (Op.store 95 _ _) _ _ _ _ :: _) _ _); refine wpList_store32 rfl 95 (.tmp 0) (.tmp 1) rfl w.heap.size rfl K64 rfl agg24 len_K64 _ _ b1 (by rw [size_arr32, len_z32]) ?_; intro w5 hb5 hg5 hs5))
  refine bodyPost_ret (results_cell_one rfl _ w.heap.size _ (arr32 K64) agg24 (by rw [size_arr32, len_K64]) rfl hb5) rfl ⟨rfl, ?_⟩
  exact ((Below.refl _ _).alloc (Nat.le_refl _) _).grown hg5 (by simp) (fun k hk => by cases hk; exact Nat.le_refl _)

set_option maxHeartbeats 400000 in
theorem begin_c (w : World) : Calls Try.prog 51 #[] w fun e w' => e = .returned (.agg (arr32 H8)) ∧ Below w.heap.size w w' := by
  have b1 := Blk.new w 88 (arr32 (z32 8))
  go_enter Try.func51, Try.ntmps51
  go_wp2_with (first
    | ((with_reducible show wpList _ _ _ (Oper.mk _ (Op.alloc 88) _ _ _ _ :: _) _ _); refine wpList_alloc_agg rfl 88 rfl (arr32 (z32 8)) zero26 ?_)
    | ((with_reducible show wpList _ _ _ (Oper.mk _ (Op.build 88 _) _ _ _ _ :: _) _ _); refine wpList_build rfl 88 _ rfl _ rfl (.agg (arr32 H8)) (by kernel_rfl) ?_)
    | ((with_reducible show wpList _ _ _ (Oper.mk none (Op.store 88 _ _) _ _ _ _ :: _) _ _); refine wpList_store32 rfl 88 (.tmp 0) (.tmp 1) rfl w.heap.size rfl H8 rfl agg26 len_H8 _ _ b1 (by rw [size_arr32, len_z32]) ?_; intro w5 hb5 hg5 hs5))
  refine bodyPost_ret (results_cell_one rfl _ w.heap.size _ (arr32 H8) agg26 (by rw [size_arr32, len_H8]) rfl hb5) rfl ⟨rfl, ?_⟩
  exact ((Below.refl _ _).alloc (Nat.le_refl _) _).grown hg5 (by simp) (fun k hk => by cases hk; exact Nat.le_refl _)
end Go.Proofs.Ytdifepfplfkfoaa
end

/-
  digest.Take: what eight words become with a schedule.
-/
section
namespace Go.Proofs.Ytdifepfplfkfoaa
open Go.RowKit
set_option linter.unusedVariables false
set_option maxRecDepth 100000

/-- What is added to the fourth word, and to the first. -/
def tee (e f g z k w : UInt32) : UInt32 := z + (rotR e 6 ^^^ rotR e 11 ^^^ rotR e 25) + (g ^^^ (e &&& (f ^^^ g))) + k + w
def yoo (a b c : UInt32) : UInt32 := (rotR a 2 ^^^ rotR a 13 ^^^ rotR a 22) + (a &&& b ||| c &&& (a ||| b))
/-- One step. -/
def stp (v : List UInt32) (k w : UInt32) : List UInt32 :=
  match v with
  | [a, b, c, d, e, f, g, z] => [tee e f g z k w + yoo a b c, a, b, c, d + tee e f g z k w, e, f, g]
  | _ => v
/-- i steps. -/
def takeTo (h w k : List UInt32) : Nat → List UInt32
  | 0 => h
  | i + 1 => stp (takeTo h w k i) (k[i]?.getD 0) (w[i]?.getD 0)
theorem len_stp (v : List UInt32) (k w : UInt32) : (stp v k w).length = v.length := by
  unfold stp
  split <;> rfl
theorem len_takeTo (h w k : List UInt32) (i : Nat) : (takeTo h w k i).length = h.length := by
  induction i with
  | zero => rfl
  | succ i ih => rw [takeTo, len_stp, ih]
/-- A schedule is taken. -/
def takeH (h w : List UInt32) : List UInt32 := List.zipWith (· + ·) h (takeTo h w K64 64)
theorem len_takeH (h w : List UInt32) (hh : h.length = 8) : (takeH h w).length = 8 := by
  rw [takeH, List.length_zipWith, len_takeTo, hh]; rfl
theorem eight {v : List UInt32} (h : v.length = 8) : ∃ a b c d e f g z, v = [a, b, c, d, e, f, g, z] := by
  match v, h with
  | [a, b, c, d, e, f, g, z], _ => exact ⟨a, b, c, d, e, f, g, z, rfl⟩

theorem info4 : (Try.prog.info? 87).map (·.size) = some 1 := by kernel_rfl
theorem size4 (w : World) : (sizeOf 87).run Try.prog w = .ok 1 w := by kernel_rfl

/-- The first j words are sums already. -/
def midH (hs T : List UInt32) (j : Nat) : List UInt32 := (List.zipWith (· + ·) hs T).take j ++ hs.drop j
theorem midH_get (hs T : List UInt32) (j : Nat) (hj : j < hs.length) (hl : T.length = hs.length) : (midH hs T j)[j]? = hs[j]? := by
  rw [midH, List.getElem?_append_right (by rw [List.length_take]; exact Nat.min_le_left _ _), List.length_take, List.length_zipWith, hl, Nat.min_self, Nat.min_eq_left (Nat.le_of_lt hj), List.getElem?_drop, Nat.sub_self, Nat.add_zero]
theorem midH_set (hs T : List UInt32) (j : Nat) (hj : j < hs.length) (hl : T.length = hs.length) : (arr32 (midH hs T j)).setIfInBounds j (.int .u32 ((hs[j]?.getD 0 + T[j]?.getD 0).toNat : Int)) = arr32 (midH hs T (j + 1)) := by
  rw [arr32, arr32, ← b32_def, List.setIfInBounds_toArray, ← List.map_set]
  congr 2
  have hz : j < (List.zipWith (· + ·) hs T).length := by rw [List.length_zipWith, hl, Nat.min_self]; exact hj
  have h1 : (List.take j (List.zipWith (· + ·) hs T)).length = j := by rw [List.length_take]; omega
  rw [midH, List.set_append_right _ _ (by rw [h1]; exact Nat.le_refl _), h1, Nat.sub_self, List.drop_eq_getElem_cons hj, List.set_cons_zero, midH, List.take_succ_eq_append_getElem hz, List.append_assoc]
  congr 1
  rw [List.getElem_zipWith, List.getElem?_eq_getElem hj, List.getElem?_eq_getElem (by rw [hl]; exact hj)]
  rfl
theorem tee_walk (e f g z k x : UInt32) : ((z.toNat : Int) + bits .xor .u32 (bits .xor .u32 ((rotR e 6).toNat : Int) ((rotR e 11).toNat : Int)) ((rotR e 25).toNat : Int) +
    bits .xor .u32 (g.toNat : Int) (bits .and .u32 (e.toNat : Int) (bits .xor .u32 (f.toNat : Int) (g.toNat : Int))) + (k.toNat : Int) + (x.toNat : Int)) % 4294967296 = ((tee e f g z k x).toNat : Int) := by
  rw [xor32, xor32, xor32, and32, xor32, tee, UInt32.toNat_add, UInt32.toNat_add, UInt32.toNat_add, UInt32.toNat_add]
  omega
theorem yoo_walk (a b c : UInt32) : (bits .xor .u32 (bits .xor .u32 ((rotR a 2).toNat : Int) ((rotR a 13).toNat : Int)) ((rotR a 22).toNat : Int) +
    bits .or .u32 (bits .and .u32 (a.toNat : Int) (b.toNat : Int)) (bits .and .u32 (c.toNat : Int) (bits .or .u32 (a.toNat : Int) (b.toNat : Int)))) % 4294967296 = ((yoo a b c).toNat : Int) := by
  rw [xor32, xor32, and32, or32, and32, or32, yoo, UInt32.toNat_add]
  omega

set_option maxHeartbeats 2000000 in
theorem take_c (hs ws : List UInt32) (hh : hs.length = 8) (hw : ws.length = 64) (w : World) :
    Calls Try.prog 54 #[.agg (arr32 hs), .agg (arr32 ws)] w fun e w' => e = .returned (.agg (arr32 (takeH hs ws))) ∧ Below w.heap.size w w' := by
  have HH := Lib.hid hh
  have HW := Lib.hid hw
  have b1 := Blk.new w 88 (arr32 hs)
  have b2 := Blk.new (w.alloc (.cells (arr32 hs) 88)) 95 (arr32 ws)
  have b3 := Blk.new ((w.alloc (.cells (arr32 hs) 88)).alloc (.cells (arr32 ws) 95)) 88 (arr32 (z32 8))
  have b4 := Blk.new (((w.alloc (.cells (arr32 hs) 88)).alloc (.cells (arr32 ws) 95)).alloc (.cells (arr32 (z32 8)) 88)) 88 (arr32 (z32 8))
  simp only [World.size_alloc] at b2 b3 b4
  have B1 := ((b1.alloc (.cells (arr32 ws) 95)).alloc (.cells (arr32 (z32 8)) 88))
  have B1' := B1.alloc (.cells (arr32 (z32 8)) 88)
  have B2' := (b2.alloc (.cells (arr32 (z32 8)) 88)).alloc (.cells (arr32 (z32 8)) 88)
  have B3' := b3.alloc (.cells (arr32 (z32 8)) 88)
  have hb : Below w.heap.size w ((((w.alloc (.cells (arr32 hs) 88)).alloc (.cells (arr32 ws) 95)).alloc (.cells (arr32 (z32 8)) 88)).alloc (.cells (arr32 (z32 8)) 88)) := ((((Below.refl _ _).alloc (Nat.le_refl _) _).alloc (by simp) _).alloc (by simp; omega) _).alloc (by simp; omega) _
  clear hh hw b1 b2 b3
  go_enter Try.func54, Try.ntmps54
  go_wp2_with (first
    | ((with_reducible show wpList _ _ _ (Oper.mk _ (Op.alloc 88) _ _ _ _ :: _) _ _); refine wpList_alloc_agg rfl 88 rfl (arr32 (z32 8)) zero26 ?_; (try simp only [World.size_alloc]))
    | ((with_reducible show wpList _ _ _ (Oper.mk _ (Op.load 88 _) _ _ _ _ :: _) _ _); refine wpList_load_whole rfl 88 (.tmp 2) rfl w.heap.size rfl (arr32 hs) agg26 (by rw [size_arr32, HH.out]) 88 B1 ?_)
    | ((with_reducible show wpList _ _ _ (Oper.mk none (Op.store 88 _ _) _ _ _ _ :: _) _ _); (refine wpList_store32 rfl 88 (.tmp 5) (.tmp 16) rfl (w.heap.size + 3) rfl hs rfl agg26 HH.out _ _ b4 (by rw [size_arr32, len_z32]) ?_; intro w5 hb5 hg5 hs5))
    | (go_at_call 71; refine (constants_c _).mono ?_; rintro e w6 ⟨rfl, hb6⟩))
  have hbw : Below w.heap.size w w6 := (hb.grown hg5 (by simp; omega) (fun k hk => by cases hk; omega)).trans (hb6.mono (by rw [hs5]; simp; omega))
  have C1 : Blk w6 w.heap.size 88 (arr32 hs) := Blk.below (B1'.grown hg5 (by simp)) hb6 (by rw [hs5]; simp; omega)
  have C2 : Blk w6 (w.heap.size + 1) 95 (arr32 ws) := Blk.below (B2'.grown hg5 (by simp)) hb6 (by rw [hs5]; simp)
  have C3 : Blk w6 (w.heap.size + 2) 88 (arr32 (z32 8)) := Blk.below (B3'.grown hg5 (by simp)) hb6 (by rw [hs5]; simp)
  have C5 : Blk w6 (w.heap.size + 3) 88 (arr32 hs) := Blk.below hb5 hb6 (by rw [hs5]; simp)
  clear hb5 hg5 hs5 hb6 hb B1 B1' B2' B3' b4
  go_loopw [18] (fun v18 wr => ∃ i : Nat, i ≤ 64 ∧ v18 = .int .i64 (i : Int) ∧ Blk wr w.heap.size 88 (arr32 hs) ∧ Blk wr (w.heap.size + 1) 95 (arr32 ws) ∧
      Blk wr (w.heap.size + 2) 88 (arr32 (z32 8)) ∧ Blk wr (w.heap.size + 3) 88 (arr32 (takeTo hs ws K64 i)) ∧ Below w.heap.size w wr) (fun v18 _ => 64 - (intOf v18).toNat)
  case atStart => exact ⟨0, by omega, rfl, C1, C2, C3, C5, hbw⟩
  case round =>
    clear C1 C2 C3 C5 hbw
    obtain ⟨i, hi, rfl, C1, C2, C3, C5, hb⟩ := hrel
    have hz := hb.size
    by_cases hlt : i < 64
    · obtain ⟨a, b, c, d, e, f, g, z, hv⟩ := eight ((len_takeTo hs ws K64 i).trans HH.out)
      rw [hv] at C5
      have HV := Lib.hid hv
      have HC1 := Lib.hid C1
      have HC2 := Lib.hid C2
      have HC3 := Lib.hid C3
      have HC5 := Lib.hid C5
      have HB := Lib.hid hb
      have hK : i < K64.length := hlt
      have hkw : (arr32 K64)[i]? = some (.int .u32 ((K64[i]?.getD 0).toNat : Int)) := by
        rw [arr32_get, List.getElem?_eq_getElem hK]; rfl
      have hww : (arr32 ws)[i]? = some (.int .u32 ((ws[i]?.getD 0).toNat : Int)) := by
        rw [arr32_get, List.getElem?_eq_getElem (by rw [HW.out]; exact hlt)]; rfl
      have hcw : wr.cell? ⟨w.heap.size + 1, i, none⟩ = some (.int .u32 ((ws[i]?.getD 0).toNat : Int)) := by rw [C2.cell, hww]
      obtain ⟨x, hx⟩ : ∃ x, x = ws[i]?.getD 0 := ⟨_, rfl⟩
      obtain ⟨k, hk⟩ : ∃ k, k = K64[i]?.getD 0 := ⟨_, rfl⟩
      rw [← hx] at hcw
      rw [← hk] at hkw
      have HX := Lib.hid hx
      have HK := Lib.hid hk
      have hix := fun W => arr_index_run (P := Try.prog) Try.underlying95 Try.underlying87 size4 (arr32 K64) i hlt _ hkw W
      have c0 : wr.cell? ⟨w.heap.size + 3, 0, none⟩ = some (.int .u32 (a.toNat : Int)) := by rw [C5.cell]; rfl
      have c1 : wr.cell? ⟨w.heap.size + 3, 1, none⟩ = some (.int .u32 (b.toNat : Int)) := by rw [C5.cell]; rfl
      have c2 : wr.cell? ⟨w.heap.size + 3, 2, none⟩ = some (.int .u32 (c.toNat : Int)) := by rw [C5.cell]; rfl
      have c4 : wr.cell? ⟨w.heap.size + 3, 4, none⟩ = some (.int .u32 (e.toNat : Int)) := by rw [C5.cell]; rfl
      have c5 : wr.cell? ⟨w.heap.size + 3, 5, none⟩ = some (.int .u32 (f.toNat : Int)) := by rw [C5.cell]; rfl
      have c6 : wr.cell? ⟨w.heap.size + 3, 6, none⟩ = some (.int .u32 (g.toNat : Int)) := by rw [C5.cell]; rfl
      have c7 : wr.cell? ⟨w.heap.size + 3, 7, none⟩ = some (.int .u32 (z.toNat : Int)) := by rw [C5.cell]; rfl
      have hi0 : (0 : Int) ≤ (i : Int) := by omega
      have hi1 : (i : Int) < 64 := by omega
      clear hv hx hk hkw hww hK C1 C2 C3 C5 hb
      go_wp2_with fail
      go_quiet (fail)
      generalize nq = q1
      go_wp2_with fail
      go_quiet ((go_at_call 72; exact quiet_add_left (rotr_c _ _ (by omega) (by omega) _)))
      go_wp2_with (go_at_call 72; refine (rotr_c _ _ (by omega) (by omega) _).mono ?_; rintro e w' ⟨rfl, rfl⟩)
      rw [tee_walk, yoo_walk]
      generalize hT : tee e f g z k x = t
      generalize hU : yoo a b c = u
      have HT := Lib.hid hT
      have HU := Lib.hid hU
      clear hT hU
      refine wp_region_still_tail 2 (by kernel_rfl) (by kernel_rfl) ?_
      simp only [List.take_succ_cons, List.take_zero, List.drop_succ_cons, List.drop_zero]
      change wpStill _ _ (wr.drewN _).drew (fun a' => wpList _ _ _ _ a' (wr.drewN _).drew) _ _
      repeat still_step
      refine wpStill_nil ?_
      obtain ⟨w2, hw2⟩ : ∃ w2, w2 = (wr.drewN (q1 + nq)).drew := ⟨_, rfl⟩
      rw [← hw2]
      have D1 : Hid (Blk w2 w.heap.size 88 (arr32 hs)) := Lib.hid (by rw [hw2]; exact HC1.out)
      have D2 : Hid (Blk w2 (w.heap.size + 1) 95 (arr32 ws)) := Lib.hid (by rw [hw2]; exact HC2.out)
      have D3 : Hid (Blk w2 (w.heap.size + 2) 88 (arr32 (z32 8))) := Lib.hid (by rw [hw2]; exact HC3.out)
      have D5 : Blk w2 (w.heap.size + 3) 88 (arr32 [a, b, c, d, e, f, g, z]) := by rw [hw2]; exact HC5.out
      have DB : Hid (Below w.heap.size w w2) := Lib.hid (by rw [hw2]; exact (below_drewN HB.out _).drew)
      clear hw2 c0 c1 c2 c4 c5 c6 c7 hcw hix
      have hsl : Sl w2 (w.heap.size + 4) 1 (some ⟨w.heap.size + 3, 0, none⟩) 7 8 ([a, b, c, d, e, f, g].map b32) := ⟨rfl, by omega, by simp [maxLen], fun _ => ⟨w.heap.size + 3, 0, rfl, by omega, fun j v hv => by
        rw [D5.cell, Nat.zero_add, ← hv, arr32_get]
        match j, hv with
        | 0, _ => rfl
        | 1, _ => rfl
        | 2, _ => rfl
        | 3, _ => rfl
        | 4, _ => rfl
        | 5, _ => rfl
        | 6, _ => rfl
        | n + 7, hv => simp at hv⟩⟩
      refine wpList_copy_blk rfl (.tmp 76) (.tmp 77) 117 rfl Try.underlying117 info4 rfl D5 rfl hsl (by rw [size_arr32]; exact Nat.le_refl _) (fun u hu => by obtain ⟨x, _, rfl⟩ := List.mem_map.1 hu; rfl) ?_
      intro w3 hb3 hg3 hs3
      have E5 : Blk w3 (w.heap.size + 3) 88 (arr32 [a, a, b, c, d, e, f, g]) := hb3
      have E1 : Hid (Blk w3 w.heap.size 88 (arr32 hs)) := Lib.hid (D1.out.grown hg3 (by simp; omega))
      have E2 : Hid (Blk w3 (w.heap.size + 1) 95 (arr32 ws)) := Lib.hid (D2.out.grown hg3 (by simp))
      have E3 : Hid (Blk w3 (w.heap.size + 2) 88 (arr32 (z32 8))) := Lib.hid (D3.out.grown hg3 (by simp))
      have EB : Hid (Below w.heap.size w w3) := Lib.hid (DB.out.grown hg3 DB.out.size (fun k hk => by cases hk; omega))
      have f4 : w3.cell? ⟨w.heap.size + 3, 4, none⟩ = some (.int .u32 (d.toNat : Int)) := by rw [E5.cell]; rfl
      have f0 : w3.cell? ⟨w.heap.size + 3, 0, none⟩ = some (.int .u32 (a.toNat : Int)) := by rw [E5.cell]; rfl
      have g4 := E5.frozen 4
      have g0 := E5.frozen 0
      have HE5 := Lib.hid E5
      clear E5 hb3 hg3 hs3 hsl D5 D1 D2 D3 DB
      go_wp2_with fail
      go_roundw
      case rel =>
        have e1 : ((d.toNat : Int) + (t.toNat : Int)) % 4294967296 = ((d + t).toNat : Int) := by rw [← add32, IntKind.wrap_u32']
        have e2 : ((t.toNat : Int) + (u.toNat : Int)) % 4294967296 = ((t + u).toNat : Int) := by rw [← add32, IntKind.wrap_u32']
        have e3 : takeTo hs ws K64 (i + 1) = [t + u, a, b, c, d + t, e, f, g] := by rw [takeTo, HV.out, ← HK.out, ← HX.out, stp, HT.out, HU.out]
        rw [e1, e2]
        refine ⟨i + 1, by omega, by go_num, (E1.out.far (by simp; omega) _).far (by simp; omega) _, (E2.out.far (by simp) _).far (by simp) _, (E3.out.far (by simp) _).far (by simp) _, ?_, (EB.out.setCell (by simp; omega) _).setCell (by simp; omega) _⟩
        rw [e3]
        exact (HE5.out.set_ 4 _).set_ 0 _
      case measure => simp [intOf]; omega
    · obtain rfl : i = 64 := by omega
      obtain ⟨T, hT⟩ : ∃ T, T = takeTo hs ws K64 64 := ⟨_, rfl⟩
      have hTl : T.length = 8 := by rw [hT, len_takeTo, HH.out]
      have hres : takeH hs ws = List.zipWith (· + ·) hs T := by rw [takeH, ← hT]
      rw [← hT] at C5
      have HTl := Lib.hid hTl
      have HR := Lib.hid hres
      clear hT hTl hres
      go_wp2_with ((with_reducible show wpList _ _ _ (Oper.mk (some 89) (Op.load 88 _) _ _ _ _ :: _) _ _); refine wpList_load_whole rfl 88 (.tmp 5) rfl (w.heap.size + 3) rfl (arr32 T) agg26 (by rw [size_arr32, HTl.out]) 88 C5 ?_)
      obtain ⟨wo, hwo⟩ : ∃ wo : World, wo = wr := ⟨_, rfl⟩
      rw [← hwo] at C1 C3 hb hz ⊢
      clear C2 C5 hwo wr
      have hmid0 : hs = midH hs T 0 := rfl
      rw [hmid0] at C1
      have HC1 := Lib.hid C1
      have HC3 := Lib.hid C3
      have HB := Lib.hid hb
      clear C1 C3 hb hmid0
      go_loopw [90] (fun v90 wr => ∃ j : Nat, j ≤ 8 ∧ v90 = .int .i64 (j : Int) ∧ Blk wr w.heap.size 88 (arr32 (midH hs T j)) ∧ Blk wr (w.heap.size + 2) 88 (arr32 (z32 8)) ∧ Below w.heap.size w wr) (fun v90 _ => 8 - (intOf v90).toNat)
      case atStart => exact ⟨0, by omega, rfl, HC1.out, HC3.out, HB.out⟩
      case round =>
        obtain ⟨j, hj, rfl, C1, C3, hb⟩ := hrel
        have hzr := hb.size
        by_cases hlt : j < 8
        · have hTj : (arr32 T)[j]? = some (.int .u32 ((T[j]?.getD 0).toNat : Int)) := by
            rw [arr32_get, List.getElem?_eq_getElem (by rw [HTl.out]; exact hlt)]; rfl
          have hix := fun W => arr_index_run (P := Try.prog) Try.underlying88 Try.underlying87 size4 (arr32 T) j hlt _ hTj W
          have hcj : wr.cell? ⟨w.heap.size, j, none⟩ = some (.int .u32 ((hs[j]?.getD 0).toNat : Int)) := by
            rw [C1.cell, arr32_get, midH_get _ _ _ (by rw [HH.out]; exact hlt) (by rw [HTl.out, HH.out]), List.getElem?_eq_getElem (by rw [HH.out]; exact hlt)]; rfl
          have hfj := C1.frozen j
          have hset := midH_set hs T j (by rw [HH.out]; exact hlt) (by rw [HTl.out, HH.out])
          have HSET := Lib.hid hset
          have HC1' := Lib.hid C1
          have HC3' := Lib.hid C3
          have HB' := Lib.hid hb
          generalize hs[j]?.getD 0 = p at *
          generalize T[j]?.getD 0 = q at *
          clear C1 C3 hb hTj hset
          go_wp2_with fail
          go_roundw
          case rel =>
            have e1 : ((p.toNat : Int) + (q.toNat : Int)) % 4294967296 = ((p + q).toNat : Int) := by rw [← add32, IntKind.wrap_u32']
            rw [e1]
            refine ⟨j + 1, by omega, by go_num, ?_, HC3'.out.far (by simp) _, HB'.out.setCell (by simp) _⟩
            rw [← HSET.out]
            exact HC1'.out.set_ j _
          case measure => simp [intOf]; omega
        · obtain rfl : j = 8 := by omega
          have hfin : midH hs T 8 = takeH hs ws := by rw [HR.out, midH, List.drop_of_length_le (by rw [HH.out]; exact Nat.le_refl _), List.take_of_length_le (by rw [List.length_zipWith, HH.out, HTl.out]; exact Nat.le_refl _), List.append_nil]
          rw [hfin] at C1
          have hl8 := Lib.hid (len_takeH hs ws HH.out)
          have HB' := Lib.hid hb
          clear hb hfin
          go_wp2_with (first
            | ((with_reducible show wpList _ _ _ (Oper.mk (some 101) (Op.load 88 _) _ _ _ _ :: _) _ _); refine wpList_load_whole rfl 88 (.tmp 2) rfl w.heap.size rfl (arr32 (takeH hs ws)) agg26 (by rw [size_arr32, hl8.out]) 88 C1 ?_)
            | ((with_reducible show wpList _ _ _ (Oper.mk none (Op.store 88 _ _) _ _ _ _ :: _) _ _); refine wpList_store32 rfl 88 (.tmp 4) (.tmp 101) rfl (w.heap.size + 2) rfl (takeH hs ws) rfl agg26 hl8.out _ _ C3 (by rw [size_arr32, len_z32]) ?_; intro w9 hb9 hg9 hs9))
          refine bodyPost_ret (results_cell_one rfl _ (w.heap.size + 2) _ (arr32 (takeH hs ws)) agg26 (by rw [size_arr32, hl8.out]) rfl hb9) rfl ⟨rfl, ?_⟩
          exact HB'.out.grown hg9 hzr (fun k hk => by cases hk; omega)
end Go.Proofs.Ytdifepfplfkfoaa
end

/-
  A piece that begins with bytes.
-/
section
namespace Go.Proofs.Ytdifepfplfkfoaa.digestSchedule
open Go.RowKit
set_option linter.unusedVariables false
set_option maxRecDepth 100000

theorem agg34 : AggT Try.prog 81 64 := ⟨⟨_, Try.underlying81, rfl⟩, by kernel_rfl⟩
theorem zero34 : (Try.prog.info? 81).bind (·.zero) = some (.agg (arr8 (z8 64))) := by kernel_rfl
theorem info8 : (Try.prog.info? 5).map (·.size) = some 1 := by kernel_rfl

/-- A piece that begins with bytes, or with the first of them. -/
def piece8 (bs : List UInt8) : List UInt8 := bs.take 64 ++ z8 (64 - (bs.take 64).length)
theorem len_piece8 (bs : List UInt8) : (piece8 bs).length = 64 := by
  rw [piece8, List.length_append, len_z8]
  have := List.length_take_le 64 bs
  omega

theorem splice_piece {bs : List UInt8} {n : Nat} (hl : bs.length = n) : splice (arr8 (z8 64)) 0 ((bs.map b8).take (Nat.min n 64 * 1)) = arr8 (piece8 bs) := by
  have e : (bs.map b8).take (Nat.min n 64 * 1) = (bs.take 64).map b8 := by
    rw [Nat.mul_one, ← List.map_take]
    congr 1
    by_cases h : n ≤ 64
    · rw [show Nat.min n 64 = n from Nat.min_eq_left h, List.take_of_length_le (by omega), List.take_of_length_le (by omega)]
    · rw [show Nat.min n 64 = 64 from Nat.min_eq_right (by omega)]
  rw [e, splice8, piece8, z8_drop]
  simp
end Go.Proofs.Ytdifepfplfkfoaa.digestSchedule
end
