/-
  How an argument is opened: slices of integers and of bytes, with the bound of the form's own reach.
-/
import Derived.Test.YtbphoilfiahnpaaByt
namespace Go.Proofs.Ytbphoilfiahnpaa
open Go.ChangeShapes Go.WideShapes Go.ChangeAt Go.RowKit
open Go.ChangeMaps (open_string shut_string)
set_option maxRecDepth 100000

theorem laidOut : laidOutB Try.prog = true := by kernel_rfl
theorem own : ownKnob Try.prog.godebug = none := by kernel_rfl

/-- The arguments lie within the form's own reach. -/
def InReach {H : Type} (P : Program) (ts : List TypeId) (ds : List (DataW H)) : Prop := (DataW.weightsEach P ts ds).all (· ≤ reachBytes) = true

theorem open_ints' {H : Type} {enc : TypeId × Value → H} {P : Program} {W : World} {t e : TypeId} {k : IntKind} {r : Reach} {b0 : Nat} (ht : P.underlying t = some (.slice e)) (he : P.underlying e = some (.int k)) (hc : P.cellsOf e = 1) {b : Nat} (hby : P.bytesOf e = b)
    {v : Value} {d : DataW H} {p : List MemPlace} (hok : Value.okWide P W r b0 t v) (h : DataW.Trod enc P W 0 (fun _ => true) true t v d p) :
    ∃ (A : Option Addr) (n c : Nat) (zs : List Int), v = .slice A n c ∧ Sl W W.heap.size 1 A n c (zs.map (Value.int k)) ∧ (∀ z ∈ zs, (Lit.int k z).wf = true) ∧
      (∀ (ts : List TypeId) (ds : List (DataW H)) (j : Nat), InReach P ts ds → ts[j]? = some t → ds[j]? = some d → c * b ≤ 140737488351232) := by
  subst hby
  obtain ⟨A, n, c, rfl⟩ := okWide_slice ht hok
  obtain ⟨fuel, hf⟩ := h
  rcases open_ints ht he hc hf with ⟨hcs, hx⟩ | ⟨x, l, c', zs, hcs, _, hl, hm, hz, hx, hcell, hwz⟩
  · simp [Value.cells] at hcs
    obtain ⟨rfl, rfl, rfl⟩ := hcs
    exact ⟨none, 0, 0, [], rfl, Sl.nil _ _ _ _, by simp, fun _ _ _ _ _ _ => by omega⟩
  · simp [Value.cells] at hcs
    obtain ⟨rfl, rfl, rfl⟩ := hcs
    simp only [if_true] at hz
    simp only [Prod.mk.injEq] at hx
    refine ⟨some x, n, c, zs.take n, rfl, ⟨?_, hl, hm, fun hc0 => ?_⟩, fun z hz' => hwz z (List.mem_of_mem_take hz'), fun ts ds j hs htj hdj => ?_⟩
    · rw [List.length_map, List.length_take, hz]; omega
    · obtain ⟨b, off, spot⟩ := x
      have h0 := hcell 0 (by omega)
      have hspot : spot = none := by simpa [Addr.add] using World.cell?_spot h0
      subst hspot
      refine ⟨b, off, rfl, by simpa [Addr.add] using World.block_lt_of_cell? W _ h0, fun j u hu => ?_⟩
      rw [List.getElem?_map, List.getElem?_take] at hu
      split at hu
      · rename_i hj
        have h1 := hcell j (by omega)
        rw [Addr.add_lit] at h1
        rw [h1]
        rw [List.getElem?_eq_getElem (by omega)] at hu
        rw [← hu, List.getD_eq_getElem?_getD, List.getElem?_eq_getElem (by omega)]
        rfl
      · cases hu
    · rw [hx.1] at hdj
      have := sized_slice hs htj hdj ht
      have e : (lits (H := H) k (zs.take n)).length + (lits (H := H) k (zs.drop n)).length = c := by simp [lits, hz]; omega
      rw [e] at this
      simpa [reachBytes] using this

theorem bytes_of8 : Try.prog.bytesOf 5 = 1 := by kernel_rfl
theorem cells_of8 : Try.prog.cellsOf 5 = 1 := by kernel_rfl
theorem b8_of {z : Int} (h : (Lit.int .u8 z).wf = true) : b8 (UInt8.ofNat z.toNat) = .int .u8 z := by
  have := u8_bd h
  rw [b8, UInt8.toNat_ofNat']
  congr 1
  omega
theorem open_bytes {H : Type} {enc : TypeId × Value → H} {W : World} {r : Reach} {b0 : Nat} {v : Value} {d : DataW H} {p : List MemPlace} (hok : Value.okWide Try.prog W r b0 (31 : Nat) v)
    (h : DataW.Trod enc Try.prog W 0 (fun _ => true) true (31 : Nat) v d p) :
    ∃ (A : Option Addr) (n c : Nat) (bs : List UInt8), v = .slice A n c ∧ SlB W W.heap.size A n c bs ∧
      (∀ (ts : List TypeId) (ds : List (DataW H)) (j : Nat), InReach Try.prog ts ds → ts[j]? = some (31 : Nat) → ds[j]? = some d → c ≤ 140737488351232) := by
  obtain ⟨A, n, c, zs, rfl, h1, h2, h3⟩ := open_ints' Try.underlying31 Try.underlying5 cells_of8 bytes_of8 hok h
  simp only [Nat.mul_one] at h3
  refine ⟨A, n, c, zs.map fun z => UInt8.ofNat z.toNat, rfl, ?_, h3⟩
  have e : (zs.map fun z => UInt8.ofNat z.toNat).map b8 = zs.map (Value.int .u8) := by
    rw [List.map_map]
    exact List.map_congr_left fun z hz => b8_of (h2 z hz)
  rw [SlB, e]
  exact h1
theorem trod_lt {H : Type} {enc : TypeId × Value → H} {P : Program} {W : World} {t : TypeId} {v : Value} {d : DataW H} {p : List MemPlace} (h : DataW.Trod enc P W 0 (fun _ => true) true t v d p) : ∀ x ∈ p, x.block < W.heap.size := by
  obtain ⟨m, hm⟩ := h
  exact DataW.trod_lt m _ _ _ hm
end Go.Proofs.Ytbphoilfiahnpaa
