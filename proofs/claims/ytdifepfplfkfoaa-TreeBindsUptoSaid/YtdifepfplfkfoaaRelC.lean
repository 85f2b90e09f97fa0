/-
  Rows of slices in a drawn region, handed to digest.Of and mac.Tag.
-/
import Derived.Test.YtdifepfplfkfoaaBase
import Derived.Test.YtdifepfplfkfoaaTag
namespace Go.Proofs.Ytdifepfplfkfoaa
open Go.RowKit
set_option linter.unusedVariables false
set_option maxRecDepth 100000

theorem RelP.parts {n : Nat} {bss : List (List UInt8)} {v : Value} {w : World} (h : RelP n bss v w) :
    ∃ A c ps, v = .slice A n c ∧ Sl w w.heap.size 1 A n c (ps.map Part.v) ∧ (∀ p ∈ ps, SlB w w.heap.size p.A p.n p.c p.bs) ∧ joined ps = bss.flatten ∧ total ps = bss.flatten.length := by
  obtain ⟨A, c, e, ls, hl, hs, hr⟩ := h
  have H : ∀ (ls : List (Option Addr × Nat × Nat)) (bss : List (List UInt8)), ls.length = bss.length → (∀ (i : Nat) (l : Option Addr × Nat × Nat) (bs : List UInt8), ls[i]? = some l → bss[i]? = some bs → SlB w w.heap.size l.1 l.2.1 l.2.2 bs) →
      ∃ ps : List Part, ps.map Part.v = ls.map (fun l => .slice l.1 l.2.1 l.2.2) ∧ (∀ p ∈ ps, SlB w w.heap.size p.A p.n p.c p.bs) ∧ joined ps = bss.flatten ∧ total ps = bss.flatten.length := by
    intro ls
    induction ls with
    | nil =>
      intro bss hl _
      cases bss with
      | nil => exact ⟨[], rfl, (fun p hp => (by cases hp)), rfl, rfl⟩
      | cons => simp at hl
    | cons l ls ih =>
      intro bss hl hr
      cases bss with
      | nil => simp at hl
      | cons b bss =>
        obtain ⟨ps, h1, h2, h3, h4⟩ := ih bss (by simpa using hl) fun i l' b' a1 a2 => hr (i + 1) l' b' (by simpa using a1) (by simpa using a2)
        have h0 := hr 0 l b rfl rfl
        refine ⟨⟨l.1, l.2.1, l.2.2, b⟩ :: ps, ?_, ?_, ?_, ?_⟩
        · rw [List.map_cons, List.map_cons, h1]; rfl
        · intro p hp
          rcases List.mem_cons.1 hp with rfl | hp
          · exact h0
          · exact h2 p hp
        · simp only [joined, List.map_cons, List.flatten_cons] at h3 ⊢
          rw [h3]
        · simp only [total, List.map_cons, List.sum_cons, List.flatten_cons, List.length_append] at h4 ⊢
          rw [h4, h0.len]
  obtain ⟨ps, h1, h2, h3, h4⟩ := H ls bss hl hr
  exact ⟨A, c, ps, e, by rw [h1]; exact hs, h2, h3, h4⟩

theorem of_p {w : World} {n : Nat} {bss : List (List UInt8)} {v : Value} (h : RelP n bss v w) (ht : bss.flatten.length ≤ 1099511627776) :
    Calls Try.prog 36 #[v] w fun e w' => e = .returned (.agg (arr8 (sha bss.flatten))) ∧ Below w.heap.size w w' := by
  obtain ⟨A, c, ps, rfl, h1, h2, h3, h4⟩ := h.parts
  rw [← h3]
  exact of_c ps h1 (Nat.le_refl _) h2 (by omega)
theorem tag_p {w : World} {B : Nat} {A : Option Addr} {n c k : Nat} {key : List UInt8} {bss : List (List UInt8)} {v : Value} (hk : SlB w B A n c key) (hB : B ≤ w.heap.size) (hn : n ≤ 1099511627776) (h : RelP k bss v w) (ht : bss.flatten.length ≤ 1099511627000) (hkk : k ≤ 1000000) :
    Calls Try.prog 30 #[.slice A n c, v] w fun e w' => e = .returned (.agg (arr8 (hmac key bss.flatten))) ∧ Below w.heap.size w w' := by
  obtain ⟨A', c', ps, rfl, h1, h2, h3, h4⟩ := h.parts
  rw [← h3]
  exact tag_c ps hk hB hn h1 (Nat.le_refl _) h2 (by omega) hkk
end Go.Proofs.Ytdifepfplfkfoaa
