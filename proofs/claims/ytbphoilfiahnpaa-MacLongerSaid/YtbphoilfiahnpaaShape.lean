/-
  How an argument of any shape is opened: numbers, truth values, strings, slices, structs, arrays, one in another.
-/
import Derived.Test.YtbphoilfiahnpaaOpen
import Derived.Deep.Slices
namespace Go.Proofs.Ytbphoilfiahnpaa
open Go.ChangeShapes Go.WideShapes Go.ChangeAt Go.RowKit Go.Deep
set_option linter.unusedVariables false
set_option maxRecDepth 100000

/-- The shape of a type's cells. -/
inductive Sh
  | int (k : IntKind)
  | bool
  | str
  | slice (e : Sh) (sz by_ : Nat)
  | arr (n : Nat) (e : Sh)
  | nil
  | cons (a : Sh) (b : Sh)

/-- The cells read as a datum of the shape. -/
def Rds (w : World) : Sh → List Value → Prop
  | .int k, cs => ∃ n : Int, cs = [.int k n] ∧ (Lit.int k n).wf = true
  | .bool, cs => ∃ b, cs = [.bool b]
  | .str, cs => ∃ s : ByteArray, cs = [.string s] ∧ s.size ≤ 140737488351232
  | .slice e sz by_, cs => ∃ (A : Option Addr) (n c : Nat) (rows : List (List Value)), cs = [.slice A n c] ∧ c * by_ ≤ 140737488351232 ∧ rows.length = n ∧ (∀ r ∈ rows, r.length = sz ∧ Rds w e r) ∧ Sl w w.heap.size sz A n c rows.flatten
  | .arr n e, cs => ∃ rows : List (List Value), cs = rows.flatten ∧ rows.length = n ∧ ∀ r ∈ rows, Rds w e r
  | .nil, cs => cs = []
  | .cons a b, cs => ∃ xs ys, cs = xs ++ ys ∧ Rds w a xs ∧ Rds w b ys

/-- A slice of bytes among them. -/
theorem Rds.bytes {w : World} {cs : List Value} (h : Rds w (.slice (.int .u8) 1 1) cs) : ∃ A n c bs, cs = [.slice A n c] ∧ SlB w w.heap.size A n c bs ∧ c ≤ 140737488351232 := by
  obtain ⟨A, n, c, rows, e, hc, hn, hr, hs⟩ := h
  have H : ∀ rows : List (List Value), (∀ r ∈ rows, r.length = 1 ∧ Rds w (.int .u8) r) → ∃ bs : List UInt8, rows.flatten = bs.map b8 := by
    intro rows
    induction rows with
    | nil => exact fun _ => ⟨[], rfl⟩
    | cons r rows ih =>
      intro h
      obtain ⟨bs, hb⟩ := ih fun x hx => h x (List.mem_cons_of_mem _ hx)
      obtain ⟨_, z, e, hz⟩ := h r (List.mem_cons_self ..)
      subst e
      exact ⟨UInt8.ofNat z.toNat :: bs, by rw [List.flatten_cons, hb, List.map_cons, b8_of hz]; rfl⟩
  obtain ⟨bs, hb⟩ := H rows hr
  exact ⟨A, n, c, bs, e, by rw [SlB, ← hb]; exact hs, by omega⟩
/-- An array of bytes among them. -/
theorem Rds.arr8 {w : World} {N : Nat} {cs : List Value} (h : Rds w (.arr N (.int .u8)) cs) : ∃ bs : List UInt8, cs = bs.map b8 ∧ bs.length = N := by
  obtain ⟨rows, e, hn, hr⟩ := h
  have H : ∀ rows : List (List Value), (∀ r ∈ rows, Rds w (.int .u8) r) → ∃ bs : List UInt8, rows.flatten = bs.map b8 ∧ bs.length = rows.length := by
    intro rows
    induction rows with
    | nil => exact fun _ => ⟨[], rfl, rfl⟩
    | cons r rows ih =>
      intro h
      obtain ⟨bs, hb, hl⟩ := ih fun x hx => h x (List.mem_cons_of_mem _ hx)
      obtain ⟨z, e, hz⟩ := h r (List.mem_cons_self ..)
      subst e
      exact ⟨UInt8.ofNat z.toNat :: bs, by rw [List.flatten_cons, hb, List.map_cons, b8_of hz]; rfl, by simp [hl]⟩
  obtain ⟨bs, hb, hl⟩ := H rows hr
  exact ⟨bs, by rw [e, hb], by rw [hl, hn]⟩

section
variable {H : Type} {enc : TypeId × Value → H} {P : Program} {W : World}

def Opens (H : Type) (enc : TypeId × Value → H) (P : Program) (W : World) (s : Sh) (t : TypeId) : Prop :=
  ∀ (fuel : Nat) (cs : List Value) (x : DataW H × List MemPlace), DataW.trod enc P W 0 (fun _ => true) true fuel t cs = some x → (∀ k ∈ x.1.weights P t, k ≤ 140737488351232) → Rds W s cs
/-- The fields from one on, at their places. -/
def OpensF (H : Type) (enc : TypeId × Value → H) (P : Program) (W : World) (s : Sh) (fs : List Field) (off N : Nat) : Prop :=
  ∀ (fuel : Nat) (cs : List Value) (xs : List (DataW H × List MemPlace)), xs.length = fs.length → cs.length = N →
    (∀ (i : Nat) (f : Field), fs[i]? = some f → DataW.trod enc P W 0 (fun _ => true) true fuel f.type ((cs.drop f.offset).take (P.cellsOf f.type)) = xs[i]?) →
    (∀ k ∈ DataW.weightsEach P (fs.map (·.type)) (xs.map (·.1)), k ≤ 140737488351232) → Rds W s (cs.drop off)

theorem Opens.int {k : IntKind} {t : TypeId} (ht : P.underlying t = some (.int k)) : Opens H enc P W (.int k) t := fun _ _ _ h _ => by
  obtain ⟨n, e, _, hw⟩ := DataW.trod_int ht h
  exact ⟨n, e, hw⟩
theorem Opens.bool {t : TypeId} (ht : P.underlying t = some .bool) : Opens H enc P W .bool t := fun _ _ _ h _ => by
  obtain ⟨b, e, _⟩ := DataW.trod_bool ht h
  exact ⟨b, e⟩
theorem Opens.str {t : TypeId} (ht : P.underlying t = some .string) : Opens H enc P W .str t := fun _ _ _ h hw => by
  obtain ⟨s, e, rfl, _⟩ := DataW.trod_string ht h
  have := hw s.size (by simp [DataW.weights])
  exact ⟨s, e, this⟩

theorem weightsAll_mem : ∀ (ds : List (DataW H)) (e : TypeId) (d : DataW H), d ∈ ds → ∀ k ∈ d.weights P e, k ∈ DataW.weightsAll P e ds
  | d0 :: ds, e, d, hd, k, hk => by
    simp only [DataW.weightsAll, List.mem_append]
    rcases List.mem_cons.1 hd with rfl | hd
    · exact .inl hk
    · exact .inr (weightsAll_mem ds e d hd k hk)
  | [], _, _, hd, _, _ => by cases hd

theorem flatten_get (sz : Nat) : ∀ (rows : List (List Value)), (∀ r ∈ rows, r.length = sz) → ∀ (i j : Nat) (r : List Value), rows[i]? = some r → j < sz → rows.flatten[i * sz + j]? = r[j]?
  | [], _, i, j, r, hr, _ => by simp at hr
  | r0 :: rows, h, 0, j, r, hr, hj => by
    simp only [List.getElem?_cons_zero, Option.some.injEq] at hr
    subst hr
    rw [List.flatten_cons, Nat.zero_mul, Nat.zero_add, List.getElem?_append_left (by rw [h r0 (List.mem_cons_self ..)]; exact hj)]
  | r0 :: rows, h, i + 1, j, r, hr, hj => by
    have h0 := h r0 (List.mem_cons_self ..)
    rw [List.flatten_cons, List.getElem?_append_right (by rw [h0, Nat.add_mul]; omega), h0, show (i + 1) * sz + j - sz = i * sz + j from by rw [Nat.add_mul]; omega]
    exact flatten_get sz rows (fun x hx => h x (List.mem_cons_of_mem _ hx)) i j r (by simpa using hr) hj
theorem flatten_len (sz : Nat) : ∀ (rows : List (List Value)), (∀ r ∈ rows, r.length = sz) → rows.flatten.length = rows.length * sz
  | [], _ => by simp
  | r :: rows, h => by
    rw [List.flatten_cons, List.length_append, h r (List.mem_cons_self ..), flatten_len sz rows fun x hx => h x (List.mem_cons_of_mem _ hx), List.length_cons, Nat.add_mul]
    omega

theorem Opens.slice {e : Sh} {t et : TypeId} {sz by_ : Nat} (ht : P.underlying t = some (.slice et)) (hsz : P.cellsOf et = sz) (hpos : 0 < sz) (hby : P.bytesOf et = by_) (he : Opens H enc P W e et) : Opens H enc P W (.slice e sz by_) t := by
  intro fuel cs x h hw
  subst hsz hby
  rcases open_slice ht h with ⟨rfl, rfl⟩ | ⟨a, len, cap, m, n, D, Pl, rfl, _, hl, hm, hmm, rfl, hi⟩
  · exact ⟨none, 0, 0, [], rfl, by omega, rfl, fun r hr => (by cases hr), Sl.nil _ _ _ _⟩
  · simp only [if_true] at hmm
    subst hmm
    simp only [DataW.weights, ht, List.mem_cons, List.mem_append] at hw
    have hcap : m * P.bytesOf et ≤ 140737488351232 := by
      have := hw _ (.inl rfl)
      simpa [show len + (m - len) = m from by omega] using this
    have hrow : ∀ i, i < len → ∃ r : List Value, (r.length = P.cellsOf et ∧ Rds W e r) ∧ ∀ j, j < P.cellsOf et → W.cell? (a.add (i * P.cellsOf et + j)) = r[j]? := by
      intro i hil
      obtain ⟨cs', hc, ht'⟩ := hi i (by omega)
      obtain ⟨_, hlen, hat⟩ := World.cells?_some hc
      refine ⟨cs', ⟨hlen, he n cs' _ ht' fun k hk => hw k (.inr (.inl (weightsAll_mem _ _ (D i) (List.mem_map.2 ⟨i, List.mem_range.2 hil, rfl⟩) k hk)))⟩, fun j hj => ?_⟩
      rw [← hat j hj, Go.Deep.add_add]
    -- all of them
    have hrows : ∃ rows : List (List Value), rows.length = len ∧ ∀ (i : Nat) (r : List Value), rows[i]? = some r → (r.length = P.cellsOf et ∧ Rds W e r) ∧ ∀ j, j < P.cellsOf et → W.cell? (a.add (i * P.cellsOf et + j)) = r[j]? := by
      clear hw hcap hi ht h
      induction len with
      | zero => exact ⟨[], rfl, fun i r hr => by simp at hr⟩
      | succ len ih =>
        obtain ⟨rows, h1, h2⟩ := ih (by omega) fun i hi => hrow i (by omega)
        obtain ⟨r, hr⟩ := hrow len (by omega)
        refine ⟨rows ++ [r], by simp [h1], fun i r' hr' => ?_⟩
        rw [List.getElem?_append] at hr'
        split at hr'
        · exact h2 i r' hr'
        · have hil : i = len := by
            rcases Nat.lt_or_ge (i - rows.length) 1 with h | h
            · omega
            · rw [List.getElem?_eq_none (by simpa using h)] at hr'; cases hr'
          subst hil
          simp [h1] at hr'
          subst hr'
          exact hr
    obtain ⟨rows, h1, h2⟩ := hrows
    have h3 : ∀ r ∈ rows, r.length = P.cellsOf et ∧ Rds W e r := fun r hr => by
      obtain ⟨i, hi', e'⟩ := List.getElem_of_mem hr
      exact (h2 i r (by rw [List.getElem?_eq_getElem hi', e'])).1
    have hfl := flatten_len _ rows fun r hr => (h3 r hr).1
    refine ⟨some a, len, m, rows, rfl, hcap, h1, h3, ⟨by rw [hfl, h1], hl, hm, fun hc0 => ?_⟩⟩
    obtain ⟨cs0, hc, _⟩ := hi 0 (by omega)
    obtain ⟨_, hlen0, hat0⟩ := World.cells?_some hc
    have hcell0 : W.cell? a = cs0[0]? := by
      have := hat0 0 hpos
      simpa [Addr.add] using this
    obtain ⟨b, off, spot⟩ := a
    have hs0 : cs0[0]? = some (cs0[0]'(by omega)) := List.getElem?_eq_getElem (by omega)
    rw [hs0] at hcell0
    have hspot : spot = none := by simpa using World.cell?_spot hcell0
    subst hspot
    refine ⟨b, off, rfl, World.block_lt_of_cell? W _ hcell0, fun j u hu => ?_⟩
    have hjl : j < rows.length * P.cellsOf et := by
      rw [← hfl]
      rcases Nat.lt_or_ge j rows.flatten.length with h | h
      · exact h
      · rw [List.getElem?_eq_none h] at hu; cases hu
    have hq : j / P.cellsOf et < rows.length := (Nat.div_lt_iff_lt_mul hpos).2 hjl
    have hr : j % P.cellsOf et < P.cellsOf et := Nat.mod_lt _ hpos
    have hj : j / P.cellsOf et * P.cellsOf et + j % P.cellsOf et = j := by rw [Nat.mul_comm]; exact Nat.div_add_mod _ _
    have h4 := flatten_get _ rows (fun r hr => (h3 r hr).1) (j / P.cellsOf et) (j % P.cellsOf et) _ (List.getElem?_eq_getElem hq) hr
    rw [hj] at h4
    have h5 := (h2 (j / P.cellsOf et) _ (List.getElem?_eq_getElem hq)).2 _ hr
    rw [hj, ← h4, hu, Addr.add_lit] at h5
    exact h5

theorem OpensF.nil {off N : Nat} (h : off = N) : OpensF H enc P W .nil [] off N := fun _ cs _ _ hl _ _ => by
  subst h
  rw [Rds, List.drop_of_length_le (by omega)]
theorem OpensF.cons {a b : Sh} {f : Field} {fs : List Field} {off n N : Nat} (ho : f.offset = off) (hn : P.cellsOf f.type = n) (ha : Opens H enc P W a f.type) (hb : OpensF H enc P W b fs (off + n) N) : OpensF H enc P W (.cons a b) (f :: fs) off N := by
  intro fuel cs xs hl hcs ht hw
  match xs, hl with
  | x :: xs, hl =>
    have h0 := ht 0 f rfl
    rw [ho, hn] at h0
    refine ⟨_, _, (List.take_append_drop n (cs.drop off)).symm, ha fuel _ x h0 fun k hk => hw k (by simp [DataW.weightsEach, hk]), ?_⟩
    rw [List.drop_drop]
    exact hb fuel cs xs (by simpa using hl) hcs (fun i g hg => by simpa using ht (i + 1) g (by simpa using hg)) fun k hk => hw k (by
      simp only [List.map_cons, DataW.weightsEach, List.mem_append]
      exact .inr hk)
theorem Opens.struct {s : Sh} {t : TypeId} {fs : Array Field} {N : Nat} (ht : P.underlying t = some (.struct fs)) (hN : P.cellsOf t = N) (h : OpensF H enc P W s fs.toList 0 N) : Opens H enc P W s t := by
  intro fuel cs x hx hw
  obtain ⟨xs, n, _, rfl, hl, hxl, hf⟩ := DataW.trod_struct ht hx
  simp only [DataW.weights, ht] at hw
  have := h n cs xs (by simpa using hxl) (by omega) (fun i f hfi => hf i f (by simpa using hfi)) hw
  simpa using this
theorem Opens.arr {e : Sh} {t et : TypeId} {n se : Nat} (ht : P.underlying t = some (.array n et)) (hse : P.cellsOf et = se) (hN : P.cellsOf t = n * se) (h : Opens H enc P W e et) : Opens H enc P W (.arr n e) t := by
  intro fuel cs x hx hw
  subst hse
  obtain ⟨xs, m, _, rfl, hl, hxl, hf⟩ := DataW.trod_array ht hx
  simp only [DataW.weights, ht] at hw
  refine ⟨(List.range n).map fun i => (cs.drop (i * P.cellsOf et)).take (P.cellsOf et), ?_, by simp, fun r hr => ?_⟩
  · have hlen : cs.length = n * P.cellsOf et := by omega
    clear hf hw hx ht hxl hN hl
    induction n generalizing cs with
    | zero => simp at hlen; simp [hlen]
    | succ n ih =>
      rw [List.range_succ_eq_map, List.map_cons, List.flatten_cons, List.map_map]
      have h1 := ih (cs.drop (P.cellsOf et)) (by rw [List.length_drop, hlen, Nat.add_mul]; omega)
      have h2 : ((fun i => (cs.drop (i * P.cellsOf et)).take (P.cellsOf et)) ∘ Nat.succ) = fun i => ((cs.drop (P.cellsOf et)).drop (i * P.cellsOf et)).take (P.cellsOf et) := by
        funext i
        simp only [Function.comp, List.drop_drop]
        rw [show (Nat.succ i) * P.cellsOf et = P.cellsOf et + i * P.cellsOf et from by rw [Nat.succ_mul]; omega]
      rw [h2, ← h1, Nat.zero_mul, List.drop_zero, List.take_append_drop]
  · obtain ⟨i, hi, rfl⟩ := List.mem_map.1 hr
    have hi := List.mem_range.1 hi
    have h1 := hf i hi
    rw [List.getElem?_eq_getElem (by omega)] at h1
    exact h m _ _ h1 fun k hk => hw k (weightsAll_mem _ _ (xs[i]'(by omega)).1 (List.mem_map.2 ⟨_, List.getElem_mem _, rfl⟩) k hk)

/-- A parameter, opened. -/
theorem Opens.par {s : Sh} {t : TypeId} (h : Opens H enc P W s t) {v : Value} {d : DataW H} {p : List MemPlace} (ht : DataW.Trod enc P W 0 (fun _ => true) true t v d p) {ts : List TypeId} {ds : List (DataW H)} (hs : InReach P ts ds) (j : Nat) (hj : ts[j]? = some t) (hd : ds[j]? = some d) :
    Rds W s v.cells.toList := by
  obtain ⟨fuel, hf⟩ := ht
  refine h fuel _ _ hf fun k hk => ?_
  have := of_decide_eq_true (List.all_eq_true.1 hs k (DataW.weights_mem_each hj hd k hk))
  simpa [reachBytes] using this
theorem agg_cells {v : Value} {t : TypeId} {r : Reach} {b0 : Nat} (h : Value.okWide P W r b0 t v) (ht : (match P.underlying t with | some (.struct _) | some (.array _ _) => true | _ => false) = true) : ∃ cs : List Value, v = .agg cs.toArray ∧ v.cells.toList = cs := by
  unfold Value.okWide at h
  split at h
  · obtain ⟨cs, rfl, _⟩ := h
    exact ⟨cs.toList, by simp, by simp [Value.cells]⟩
  · obtain ⟨cs, rfl, _⟩ := h
    exact ⟨cs.toList, by simp, by simp [Value.cells]⟩
  · rename_i h1 h2
    split at ht
    · rename_i e; exact absurd e (h1 _)
    · rename_i e; exact absurd e (h2 _ _)
    · cases ht
theorem slice_cells {v : Value} {t e : TypeId} {r : Reach} {b0 : Nat} (ht : P.underlying t = some (.slice e)) (h : Value.okWide P W r b0 t v) : v.cells.toList = [v] := by
  obtain ⟨A, n, c, rfl⟩ := okWide_slice ht h
  rfl
end
end Go.Proofs.Ytbphoilfiahnpaa
