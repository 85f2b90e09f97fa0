/-
  What the bound on the bulk says of the slices of an argument of any shape, those in the rows of a slice too.
-/
import Derived.Test.YtkiiobfomnggcaaBase
import Derived.Deep.CondSized
import Derived.JoinedCond
namespace Go.Proofs.Ytkiiobfomnggcaa
open Go.ChangeShapes Go.WideShapes Go.ChangeAt Go.RowKit Go.Deep
set_option linter.unusedVariables false
set_option maxRecDepth 100000

/-- The slices among the cells are short. -/
def BdsR (W : World) (B : Nat) : Sh → List Value → Prop
  | .int k, cs => ∃ n : Int, cs = [.int k n]
  | .bool, cs => ∃ b, cs = [.bool b]
  | .str, cs => ∃ s : ByteArray, cs = [.string s]
  | .slice e sz by_, cs => ∃ (A : Option Addr) (n c : Nat), cs = [.slice A n c] ∧ n ≤ B ∧ c ≤ B ∧ ∀ rows : List (List Value), rows.length = n → (∀ r ∈ rows, r.length = sz) → Sl W W.heap.size sz A n c rows.flatten → ∀ r ∈ rows, BdsR W B e r
  | .arr n e, cs => True
  | .nil, cs => cs = []
  | .cons a b, cs => ∃ xs ys, cs = xs ++ ys ∧ BdsR W B a xs ∧ BdsR W B b ys

section
variable {H : Type} {enc : TypeId × Value → H} {P : Program} {W : World} {B : Nat}

theorem bulk_lenR (l : List (DataW H)) : l.length ≤ Rows.uptoBulkAll l := by
  induction l with
  | nil => simp [Rows.uptoBulkAll]
  | cons x r ih =>
    have h1 : 1 ≤ Rows.uptoBulk x := by
      cases x with
      | lit l => cases l <;> simp [Rows.uptoBulk]
      | _ => simp [Rows.uptoBulk]
    simp only [Rows.uptoBulkAll, List.length_cons]
    omega

def OpensUR (H : Type) (enc : TypeId × Value → H) (P : Program) (W : World) (B : Nat) (s : Sh) (t : TypeId) : Prop :=
  ∀ (fuel : Nat) (cs : List Value) (x : DataW H × List MemPlace), DataW.trod enc P W 0 (fun _ => true) true fuel t cs = some x → Rows.uptoBulk x.1 ≤ B → BdsR W B s cs
def OpensURF (H : Type) (enc : TypeId × Value → H) (P : Program) (W : World) (B : Nat) (s : Sh) (fs : List Field) (off N : Nat) : Prop :=
  ∀ (fuel : Nat) (cs : List Value) (xs : List (DataW H × List MemPlace)), xs.length = fs.length → cs.length = N →
    (∀ (i : Nat) (f : Field), fs[i]? = some f → DataW.trod enc P W 0 (fun _ => true) true fuel f.type ((cs.drop f.offset).take (P.cellsOf f.type)) = xs[i]?) →
    Rows.uptoBulkAll (xs.map (·.1)) ≤ B → BdsR W B s (cs.drop off)

theorem OpensUR.int {k : IntKind} {t : TypeId} (ht : P.underlying t = some (.int k)) : OpensUR H enc P W B (.int k) t := fun _ _ _ h _ => by
  obtain ⟨n, e, _, hw⟩ := DataW.trod_int ht h
  exact ⟨n, e⟩
theorem OpensUR.bool {t : TypeId} (ht : P.underlying t = some .bool) : OpensUR H enc P W B .bool t := fun _ _ _ h _ => by
  obtain ⟨b, e, _⟩ := DataW.trod_bool ht h
  exact ⟨b, e⟩
theorem OpensUR.str {t : TypeId} (ht : P.underlying t = some .string) : OpensUR H enc P W B .str t := fun _ _ _ h _ => by
  obtain ⟨s, e, rfl, _⟩ := DataW.trod_string ht h
  exact ⟨s, e⟩
theorem OpensUR.arr {e : Sh} {n : Nat} {t : TypeId} : OpensUR H enc P W B (.arr n e) t := fun _ _ _ h _ => trivial
theorem bulk_partR {d : DataW H} : ∀ {l : List (DataW H)} {j : Nat}, l[j]? = some d → Rows.uptoBulk d ≤ Rows.uptoBulkAll l
  | [], j, h => by simp at h
  | x :: r, 0, h => by
    simp only [List.getElem?_cons_zero, Option.some.injEq] at h
    subst h
    simp only [Rows.uptoBulkAll]
    omega
  | x :: r, j + 1, h => by
    have := bulk_partR (l := r) (j := j) (by simpa using h)
    simp only [Rows.uptoBulkAll]
    omega
theorem add_at_ (b off k : Nat) : (⟨b, off, none⟩ : Addr).add k = ⟨b, off + k, none⟩ := by
  cases k with
  | zero => simp [Addr.add]
  | succ k => simp [Addr.add]
theorem OpensUR.slice {e : Sh} {t et : TypeId} {sz by_ : Nat} (ht : P.underlying t = some (.slice et)) (hsz : P.cellsOf et = sz) (he : OpensUR H enc P W B e et) : OpensUR H enc P W B (.slice e sz by_) t := by
  intro fuel cs x h hw
  subst hsz
  rcases open_slice ht h with ⟨rfl, rfl⟩ | ⟨a, len, cap, m, n, D, Pl, rfl, _, hl, hm, hmm, rfl, hi⟩
  · refine ⟨none, 0, 0, rfl, Nat.zero_le _, Nat.zero_le _, fun rows hr _ _ r hm => ?_⟩
    rw [List.length_eq_zero_iff] at hr
    subst hr
    cases hm
  · simp only [if_true] at hmm
    subst hmm
    simp only [Rows.uptoBulk] at hw
    have h1 := bulk_lenR ((List.range len).map D)
    have h2 := bulk_lenR ((List.range (m - len)).map fun j => D (len + j))
    simp only [List.length_map, List.length_range] at h1 h2
    refine ⟨_, _, _, rfl, by omega, by omega, fun rows hr hrl hs r hmem => ?_⟩
    obtain ⟨i, hi', e'⟩ := List.getElem_of_mem hmem
    have hil : i < len := by omega
    have hri : rows[i]? = some r := by rw [List.getElem?_eq_getElem hi', e']
    obtain ⟨cs', hc, ht'⟩ := hi i (by omega)
    obtain ⟨_, hlen, hat⟩ := World.cells?_some hc
    have hrlen := hrl r hmem
    have heq : r = cs' := by
      refine List.ext_getElem? fun j => ?_
      by_cases hj : j < P.cellsOf et
      · obtain ⟨b, off, ea, _, hcell⟩ := hs.2.2.2 (by omega)
        have e1 := flatten_get (P.cellsOf et) rows hrl i j r hri hj
        have hrj : r[j]? = some (r[j]'(by omega)) := List.getElem?_eq_getElem (by omega)
        have e2 := hcell (i * P.cellsOf et + j) (r[j]'(by omega)) (by rw [e1, hrj])
        have e3 := hat j hj
        rw [Go.Deep.add_add] at e3
        simp only [Option.some.injEq] at ea
        subst ea
        rw [hrj, ← e3, ← e2]
        rw [add_at_]
      · rw [List.getElem?_eq_none (by omega), List.getElem?_eq_none (by omega)]
    subst heq
    refine he n r _ ht' ?_
    have := bulk_partR (H := H) (d := D i) (l := (List.range len).map D) (j := i) (by simp [hil])
    simp only
    omega
theorem OpensURF.nil {off N : Nat} (h : off = N) : OpensURF H enc P W B .nil [] off N := fun _ cs _ _ hl _ _ => by
  subst h
  rw [BdsR, List.drop_of_length_le (by omega)]
theorem OpensURF.cons {a b : Sh} {f : Field} {fs : List Field} {off n N : Nat} (ho : f.offset = off) (hn : P.cellsOf f.type = n) (ha : OpensUR H enc P W B a f.type) (hb : OpensURF H enc P W B b fs (off + n) N) : OpensURF H enc P W B (.cons a b) (f :: fs) off N := by
  intro fuel cs xs hl hcs ht hw
  match xs, hl with
  | x :: xs, hl =>
    have h0 := ht 0 f rfl
    rw [ho, hn] at h0
    simp only [List.map_cons, Rows.uptoBulkAll] at hw
    refine ⟨_, _, (List.take_append_drop n (cs.drop off)).symm, ha fuel _ x h0 (by omega), ?_⟩
    rw [List.drop_drop]
    exact hb fuel cs xs (by simpa using hl) hcs (fun i g hg => by simpa using ht (i + 1) g (by simpa using hg)) (by omega)
theorem OpensUR.struct {s : Sh} {t : TypeId} {fs : Array Field} {N : Nat} (ht : P.underlying t = some (.struct fs)) (hN : P.cellsOf t = N) (h : OpensURF H enc P W B s fs.toList 0 N) : OpensUR H enc P W B s t := by
  intro fuel cs x hx hw
  obtain ⟨xs, n, _, rfl, hl, hxl, hf⟩ := DataW.trod_struct ht hx
  simp only [Rows.uptoBulk] at hw
  have := h n cs xs (by simpa using hxl) (by omega) (fun i f hfi => hf i f (by simpa using hfi)) (by omega)
  simpa using this
/-- A parameter's slices. -/
theorem OpensUR.par {s : Sh} {t : TypeId} (h : OpensUR H enc P W 1048576 s t) {v : Value} {d : DataW H} {p : List MemPlace} (ht : DataW.Trod enc P W 0 (fun _ => true) true t v d p) {ds : List (DataW H)} (hk : Rows.uptoSmall H ds = true) (j : Nat) (hd : ds[j]? = some d) :
    BdsR W 1048576 s v.cells.toList := by
  obtain ⟨fuel, hf⟩ := ht
  have h1 := of_decide_eq_true hk
  exact h fuel _ _ hf (Nat.le_trans (bulk_partR hd) h1)
end
end Go.Proofs.Ytkiiobfomnggcaa
