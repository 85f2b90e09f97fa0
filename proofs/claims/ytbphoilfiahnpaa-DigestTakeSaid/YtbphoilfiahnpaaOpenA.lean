/-
  How an argument is opened: arrays of integers.
-/
import Derived.Test.YtbphoilfiahnpaaOpen
import Derived.Test.YtbphoilfiahnpaaArr
namespace Go.Proofs.Ytbphoilfiahnpaa
open Go.ChangeShapes Go.WideShapes Go.ChangeAt Go.RowKit
set_option maxRecDepth 100000

theorem open_arr_ints {H : Type} {enc : TypeId × Value → H} {P : Program} {W : World} {t e : TypeId} {k : IntKind} {N : Nat} {r : Reach} {b0 : Nat} (ht : P.underlying t = some (.array N e)) (he : P.underlying e = some (.int k)) (hce : P.cellsOf e = 1) (hct : P.cellsOf t = N)
    {v : Value} {d : DataW H} {p : List MemPlace} (hok : Value.okWide P W r b0 t v) (h : DataW.Trod enc P W 0 (fun _ => true) true t v d p) :
    ∃ zs : List Int, v = .agg (zs.map (Value.int k)).toArray ∧ zs.length = N ∧ (∀ z ∈ zs, (Lit.int k z).wf = true) := by
  simp only [Value.okWide, ht] at hok
  obtain ⟨cs, rfl, hsz, _⟩ := hok
  obtain ⟨fuel, hf⟩ := h
  obtain ⟨xs, m, _, _, hl, hlen, hi⟩ := DataW.trod_array ht hf
  rw [hct] at hsz
  have key : ∀ i, i < N → ∃ z : Int, cs[i]? = some (.int k z) ∧ (Lit.int k z).wf = true := fun i hi' => by
    have h1 := hi i hi'
    rw [hce, Nat.mul_one, List.getElem?_eq_getElem (by omega)] at h1
    obtain ⟨a, ea, _, wa⟩ := DataW.trod_int he h1
    refine ⟨a, ?_, wa⟩
    have h2 : ((Value.cells (.agg cs)).toList.drop i)[0]? = some (.int k a) := by
      have := congrArg (fun l : List Value => l[0]?) ea
      simpa using this
    simpa [Value.cells] using h2
  let f : Value → Int := fun v => match v with
    | .int _ z => z
    | _ => 0
  refine ⟨cs.toList.map f, ?_, by simpa using hsz, fun z hz => ?_⟩
  · congr 1
    apply Array.ext_getElem?
    intro i
    by_cases hiN : i < N
    · obtain ⟨z, hz, _⟩ := key i hiN
      simp [hz, f]
    · rw [Array.getElem?_eq_none (by omega), Array.getElem?_eq_none (by simp; omega)]
  · obtain ⟨v, hv, rfl⟩ := List.mem_map.1 hz
    obtain ⟨i, hi', e1⟩ := List.getElem_of_mem hv
    obtain ⟨z, hz', wz⟩ := key i (by simp at hi'; omega)
    have e2 : cs[i]? = some v := by rw [← e1]; simp
    rw [hz'] at e2
    simp only [Option.some.injEq] at e2
    subst e2
    exact wz
theorem ints_words {zs : List Int} (h : ∀ z ∈ zs, (Lit.int .u32 z).wf = true) : zs.map (Value.int .u32) = (zs.map fun z => UInt32.ofNat z.toNat).map b32 := by
  rw [List.map_map]
  refine List.map_congr_left fun z hz => ?_
  have := h z hz
  simp only [Lit.wf, IntKind.min, IntKind.max, IntKind.signed, IntKind.bits] at this
  simp at this
  simp only [Function.comp, b32, UInt32.toNat_ofNat']
  congr 1
  omega
theorem ints_bytes {zs : List Int} (h : ∀ z ∈ zs, (Lit.int .u8 z).wf = true) : zs.map (Value.int .u8) = (zs.map fun z => UInt8.ofNat z.toNat).map b8 := by
  rw [List.map_map]
  exact List.map_congr_left fun z hz => (b8_of (h z hz)).symm
theorem open_arr32 {H : Type} {enc : TypeId × Value → H} {P : Program} {W : World} {t e : TypeId} {N : Nat} {r : Reach} {b0 : Nat} (ht : P.underlying t = some (.array N e)) (he : P.underlying e = some (.int .u32)) (hce : P.cellsOf e = 1) (hct : P.cellsOf t = N)
    {v : Value} {d : DataW H} {p : List MemPlace} (hok : Value.okWide P W r b0 t v) (h : DataW.Trod enc P W 0 (fun _ => true) true t v d p) : ∃ ws : List UInt32, v = .agg (arr32 ws) ∧ ws.length = N := by
  obtain ⟨zs, rfl, hl, hw⟩ := open_arr_ints ht he hce hct hok h
  exact ⟨_, by rw [arr32, ints_words hw], by simpa using hl⟩
theorem open_arr8 {H : Type} {enc : TypeId × Value → H} {P : Program} {W : World} {t e : TypeId} {N : Nat} {r : Reach} {b0 : Nat} (ht : P.underlying t = some (.array N e)) (he : P.underlying e = some (.int .u8)) (hce : P.cellsOf e = 1) (hct : P.cellsOf t = N)
    {v : Value} {d : DataW H} {p : List MemPlace} (hok : Value.okWide P W r b0 t v) (h : DataW.Trod enc P W 0 (fun _ => true) true t v d p) : ∃ bs : List UInt8, v = .agg (arr8 bs) ∧ bs.length = N := by
  obtain ⟨zs, rfl, hl, hw⟩ := open_arr_ints ht he hce hct hok h
  exact ⟨_, by rw [arr8, ints_bytes hw], by simpa using hl⟩
end Go.Proofs.Ytbphoilfiahnpaa
