/-
  login: the document's Answer (printed by wip/gen_login15.py).
-/
import Derived.Test.YtiadfbcdopfibaaLoginRS
namespace Go.Proofs.Ytiadfbcdopfibaa
open Go.RowKit
set_option linter.unusedVariables false
set_option linter.unusedSimpArgs false
set_option maxRecDepth 100000

theorem state_0 {w : World} (gm : Nat) : Calls Try.prog 26 #[.pointer (some ⟨gm, 0, none⟩), .int .i64 0] w fun e w' => e = .returned (.tuple #[.int .i64 0, .int .i64 0]) ∧ Below w.heap.size w w' := by
  go_enter Try.func26, Try.ntmps26
  go_wp2_with fail
  refine bodyPost_ret (results_tmp2 rfl _ _ _) rfl ⟨rfl, Below.refl _ _⟩
theorem state_r {gm : Nat} {tn init : Int} {At : Option Addr} {nt ct : Nat} {th : List UInt8} {Ao : Option Addr} {no co : Nat} {ou : List UInt8} {A : Option Addr} {N C : Nat} {cs : List Cv} : ∀ (j : Nat), j ≤ N → ∀ {w : World}, Md w gm tn init At nt ct th Ao no co ou A N C cs →
    Calls Try.prog 26 #[.pointer (some ⟨gm, 0, none⟩), .int .i64 (j : Int)] w fun e w' => e = .returned (.tuple #[.int .i64 (stf init th ou (cs.take j)).st, .int .i64 (nxr (stf init th ou (cs.take j)))]) ∧ Below w.heap.size w w'
  | 0, _, w, _ => state_0 gm
  | j + 1, hj, w, h => state_step h j (by omega) _ (by omega) fun W hb => state_r j (by omega) (h.below hb)
theorem results_cell_tmp3 {P : Program} {w : World} {n : Nat} {fn : Func} {p t t2 t3 : Tmp} {ty : TypeId} (hr : fn.results = #[.cell p ty, .tmp t, .tmp t2, .tmp t3]) (tmps : Array Value) (g : Nat) (tb : TypeId) (cs : Array Value) (hT : AggT P ty n) (hn : cs.size = n)
    (hp : tmps.getD p undef = .pointer (some ⟨g, 0, none⟩)) (hb : Blk w g tb cs) : (results fn tmps).run P w = .ok (.tuple #[.agg cs, tmps.getD t undef, tmps.getD t2 undef, tmps.getD t3 undef]) w := by
  have hl := run_loadVar_agg (P := P) (w := w) g 0 cs (hn ▸ hT) (fun j v hv => by rw [Nat.zero_add, hb.cell]; exact hv)
  have hp' : tmps[p]?.getD undef = .pointer (some ⟨g, 0, none⟩) := by simpa using hp
  simp [results, hr, hp', asAddr, hl]
theorem aggCame : AggT Try.prog 58 36 := ⟨⟨_, Try.underlying58, rfl⟩, by kernel_rfl⟩
def zCame : Array Value := #[.int .i64 0, .int .i64 0, .int .i64 0, .slice none 0 0] ++ arr8 (z8' 32)
theorem zeroCame : (Try.prog.info? 58).bind (·.zero) = some (.agg zCame) := by kernel_rfl
theorem buildFrZ (w : World) : (Instr.build 36 #[]).run Try.prog w = .ok (.agg #[.int .i64 0, .int .i64 0, .int .i64 0, .slice none 0 0]) w := by kernel_rfl
theorem buildFr7 (x : Int) (w : World) : (Instr.build 36 #[(0, .int .i64 7), (2, .int .i64 x)]).run Try.prog w = .ok (.agg #[.int .i64 7, .int .i64 0, .int .i64 x, .slice none 0 0]) w := by kernel_rfl
def AnsP (w : World) (out : Out) (e : Ending) (w' : World) : Prop := ∃ A c, e = .returned (.tuple #[.agg #[.int .i64 out.k, .int .i64 out.n, .int .i64 out.x, .slice A out.bs.length c], .bool out.has, .bool out.drew, .bool out.taken]) ∧ OwB w' w.heap.size A out.bs.length c out.bs ∧ Below w.heap.size w w'
set_option maxHeartbeats 4000000 in
theorem reject_r (x : Int) (w : World) : Calls Try.prog 37 #[.int .i64 x] w fun e w' => e = .returned (.tuple #[.agg #[.int .i64 7, .int .i64 0, .int .i64 x, .slice none 0 0], .bool true, .bool false, .bool false]) ∧ Below w.heap.size w w' := by
  have b2 := Blk.new w 36 #[.int .i64 0, .int .i64 0, .int .i64 0, .slice none 0 0]
  have hb := below_alloc w (.cells #[.int .i64 0, .int .i64 0, .int .i64 0, .slice none 0 0] 36)
  have hB7 := buildFr7 x
  go_enter Try.func37, Try.ntmps37
  go_wp2_with (first
    | ((with_reducible show wpList _ _ _ (Oper.mk (some 2) (Op.alloc _) _ _ _ _ :: _) _ _); refine wpList_alloc_agg rfl 36 rfl #[.int .i64 0, .int .i64 0, .int .i64 0, .slice none 0 0] zeroFr ?_)
    | ((with_reducible show wpList _ _ _ (Oper.mk none (Op.store 36 (.tmp 2) (.tmp 7)) _ _ _ _ :: _) _ _); refine wpList_store_whole rfl 36 (.tmp 2) (.tmp 7) rfl w.heap.size rfl [.int .i64 7, .int .i64 0, .int .i64 x, .slice none 0 0] rfl aggFr rfl _ _ b2 rfl (by simp [Value.oneCell']) ?_; intro w7 b7 q7 s7))
  refine bodyPost_ret (results_cell_tmp3 rfl _ w.heap.size _ #[.int .i64 7, .int .i64 0, .int .i64 x, .slice none 0 0] aggFr rfl rfl b7) rfl ⟨rfl, ?_⟩
  exact hb.grown q7 hb.size (fun k hk => by cases hk; exact Nat.le_refl _)
theorem run_append8K {w : World} {base : Nat} {ty : TypeId} {A : Option Addr} {n c : Nat} {xs : List UInt8} (hown : OwB w base A n c xs)
    {B : Nat} {A2 : Option Addr} {m c2 : Nat} {news : List UInt8} (hr : SlB w B A2 m c2 news) (hbytes : n + m ≤ 140737488355328) (hbase : base ≤ w.heap.size) :
    ∃ A' c' w', (Builtin.append_ #[22, 22] ty #[.slice A n c, .slice A2 m c2]).run Try.prog w = .ok (.slice A' (n + m) c') w' ∧ OwB w' base A' (n + m) c' (xs ++ news) ∧ Went w w' A n c m A' c' ∧
      (∀ v, RelO base n xs v w → RelO base n xs v w') ∧ (∀ v, RelO base (n + m) (xs ++ news) v w → RelO base (n + m) (xs ++ news) v w') := by
  obtain ⟨i, hi, hz0, hz1, hz2⟩ := info_parts bytes_info
  obtain ⟨A', c', w', h1, h2, h3⟩ := run_append_row (P := Try.prog) (ty := ty) Try.underlying22 hi hz0 hz1 hz2 rfl hown hr (b8_one _) (by omega) (by simp only [maxLen]; omega) hbase
  rw [← List.map_append] at h2
  refine ⟨A', c', w', h1, h2, h3, ?_⟩
  have hx := hown.len
  have hnl := hr.len
  by_cases hroom : n + m ≤ c
  · rcases Nat.eq_zero_or_pos c with hc0 | hc0
    · have hb : Below w.heap.size w w' := by
        have := h3.grown
        rw [wrote, if_pos hc0] at this
        exact (Below.refl _ _).grown this (Nat.le_refl _) (fun k hk => by cases hk)
      exact ⟨fun v h => RelO.later v w w' hb h, fun v h => RelO.later v w w' hb h⟩
    · obtain ⟨g, cur, rfl, hg, hb, hs, htk⟩ := hown.2.2.2 hc0
      have hnews := run_firstCells_sl (P := Try.prog) hr w (fun _ => rfl)
      have hfit : n * 1 + (news.map b8).length ≤ cur.size := by rw [hr.1, ← Nat.add_mul]; exact Nat.le_trans (Nat.mul_le_mul_right _ hroom) hs
      have hst := run_storeCells_at Try.prog g (n * 1) 5 (news.map b8) 0 cur w hb (by simpa using hfit) (b8_one _)
      simp only [Nat.add_zero] at hst
      have hrun : (Builtin.append_ #[22, 22] ty #[.slice (some ⟨g, 0, none⟩) n c, .slice A2 m c2]).run Try.prog w = .ok (.slice (some ⟨g, 0, none⟩) (n + m) c) (w.setRow g (cur.toList.take (n * 1) ++ news.map b8 ++ cur.toList.drop (n * 1 + (news.map b8).length)).toArray) := by
        simp [Builtin.append_, run_underlying (Try.underlying22), sizeOf, typeInfo, hi, hz1, Builtin.lenOf, hroom, hnews, Addr.add_lit] at hst ⊢
        simp [hst]
      rw [h1] at hrun
      simp only [Result.ok.injEq, Value.slice.injEq] at hrun
      obtain ⟨_, hw⟩ := hrun
      obtain ⟨cur', hcur⟩ : ∃ x, x = (cur.toList.take (n * 1) ++ news.map b8 ++ cur.toList.drop (n * 1 + (news.map b8).length)).toArray := ⟨_, rfl⟩
      rw [← hcur] at hw
      have hb' : Blk w' g 5 cur' := by rw [hw]; exact hb.setRow _
      have hsz : cur'.size = cur.size := by
        rw [hcur]
        simp only [List.size_toArray, List.length_append, List.length_take, List.length_drop, Array.length_toList]
        omega
      have ht2 : cur'.toList.take ((n + m) * 1) = (xs ++ news).map b8 := by
        rw [hcur, List.map_append, htk, show (n + m) * 1 = (xs.map b8 ++ news.map b8).length by simp [hx, hnl]]
        exact List.take_left
      have ht1 : cur'.toList.take (n * 1) = xs.map b8 := by
        have := congrArg (List.take (n * 1)) ht2
        rw [List.take_take, Nat.min_eq_left (by omega), List.map_append, List.take_left' (by simp [hx])] at this
        exact this
      have key : ∀ (k : Nat) (bs : List UInt8), cur'.toList.take (k * 1) = bs.map b8 → ∀ v, RelO base k bs v w → RelO base k bs v w' := by
        rintro k bs ht v ⟨A4, c4, rfl, h4⟩
        refine ⟨A4, c4, rfl, h4.1, h4.2.1, h4.2.2.1, fun hc4 => ?_⟩
        obtain ⟨g4, cur4, rfl, hg4, hb4, hs4, ht4⟩ := h4.2.2.2 hc4
        by_cases e : g4 = g
        · subst e
          have e2 : cur4 = cur := by
            have a1 := hb4
            have a2 := hb
            rw [Blk] at a1 a2
            rw [a1] at a2
            simp only [Option.some.injEq, Obj.cells.injEq] at a2
            exact a2.1
          subst e2
          exact ⟨g4, cur', rfl, hg4, hb', by omega, ht⟩
        · refine ⟨g4, cur4, rfl, hg4, ?_, hs4, ht4⟩
          rw [Blk, hw, setRow_other w g g4 _ e]
          exact hb4
      exact ⟨key n xs ht1, key (n + m) (xs ++ news) ht2⟩
  · have hb : Below w.heap.size w w' := (Below.refl _ _).grown (h3.moved (by omega)).2.2 (Nat.le_refl _) (fun k hk => by cases hk)
    exact ⟨fun v h => RelO.later v w w' hb h, fun v h => RelO.later v w w' hb h⟩
theorem wpList_append8K {ops : Array Oper} {rest : List Oper} {o : Oper} {a : Act} {Q : Exit → Act → World → Prop} {w : World} (hgd : o.guard = none) (s x : Operand)
    (ho : o.op = .call { callee := .builtin .append, args := #[s, x], argTypes := #[22, 22] })
    {base : Nat} {A : Option Addr} {n c : Nat} {xs : List UInt8} (hs : a.eval s = .slice A n c) (hown : OwB w base A n c xs)
    {B : Nat} {A2 : Option Addr} {m c2 : Nat} {news : List UInt8} (hx : a.eval x = .slice A2 m c2) (hr : SlB w B A2 m c2 news)
    (hbytes : n + m ≤ 140737488355328) (hbase : base ≤ w.heap.size) (k : Nat) (hk : n + m = k)
    (h : ∀ A' c' w', OwB w' base A' k c' (xs ++ news) → Went w w' A n c m A' c' → (∀ v, RelO base n xs v w → RelO base n xs v w') ∧ (∀ v, RelO base k (xs ++ news) v w → RelO base k (xs ++ news) v w') → wpList Try.prog ops Q rest (a.put o.dst (.slice A' k c')) w') :
    wpList Try.prog ops Q (o :: rest) a w := by
  subst hk
  refine wpList_plain hgd fun K hK => ?_
  obtain ⟨A', c', w', hrun, h2, h3, h4⟩ := run_append8K (ty := o.type) hown hr hbytes hbase
  unfold Oper.wp execOp
  simp only [ho, resolve, invoke, builtin, Sem.run_bind, Sem.run_pure, Result.andThen_ok, List.map_toArray, List.map_cons, List.map_nil, hs, hx, hrun]
  exact hK _ _ (h A' c' w' h2 h3 h4)
/-- What may change while bytes are appended to a row of one's own. -/
def LeO (B : Nat) (bs cs : List UInt8) (w w' : World) : Prop := Below B w w' ∧ (∀ v, RelO B 32 bs v w → RelO B 32 bs v w') ∧ (∀ v, RelO B 64 cs v w → RelO B 64 cs v w')
def CB (w0 : World) (b : Bool) (w : World) : Prop := Below w0.heap.size w0 w
theorem CB.step {w0 w w' : World} {b : Bool} {bs cs : List UInt8} (h : CB w0 b w) (hb : Below w.heap.size w w') : LeO w0.heap.size bs cs w w' ∧ CB w0 b w' :=
  ⟨⟨hb.mono h.size, fun v hv => RelO.later v w w' hb hv, fun v hv => RelO.later v w w' hb hv⟩, Below.trans h (hb.mono h.size)⟩
theorem Det.laterO {B : Nat} {bs cs : List UInt8} {c : Value} (_ : True) (v : Value) (w w' : World) (hb : LeO B bs cs w w') (h : Det c v w) : Det c v w' := h
theorem Any.laterO {B : Nat} {bs cs : List UInt8} (_ : True) (v : Value) (w w' : World) (hb : LeO B bs cs w w') (h : Any v w) : Any v w' := h
theorem RelE.laterO {B : Nat} {bs cs : List UInt8} (_ : True) (v : Value) (w w' : World) (hb : LeO B bs cs w w') (h : RelE v w) : RelE v w' := h
theorem RelO.laterO {B : Nat} {bs cs : List UInt8} (_ : True) (v : Value) (w w' : World) (hb : LeO B bs cs w w') (h : RelO B 32 bs v w) : RelO B 32 bs v w' := hb.2.1 v h
def RelO2 (B : Nat) (cs : List UInt8) : Value → World → Prop := RelO B 64 cs
theorem RelO2.laterO {B : Nat} {bs cs : List UInt8} (_ : True) (v : Value) (w w' : World) (hb : LeO B bs cs w w') (h : RelO2 B cs v w) : RelO2 B cs v w' := hb.2.2 v h
theorem RelF.laterO {B : Nat} {bs cs : List UInt8} {id : Int} (_ : True) (v : Value) (w w' : World) (hb : LeO B bs cs w w') (h : RelF B id cs v w) : RelF B id cs v w' := by
  obtain ⟨A, c, e, h⟩ := h
  obtain ⟨A', c', e', h'⟩ := hb.2.2 (.slice A 64 c) ⟨A, c, rfl, h⟩
  cases e'
  exact ⟨A, c, e, h'⟩
theorem row4 {w : World} {g : Nat} {v : Cv} (h : Blk w g 58 v.row.toArray) : ∀ (q : Nat) u, (#[.int .i64 v.k, .int .i64 v.n, .int .i64 v.x, .slice v.A v.m v.c] : Array Value)[q]? = some u → w.cell? ⟨g, 0 + q, none⟩ = some u := fun q u hq => by
  rw [Nat.zero_add, h.cell, List.getElem?_toArray]
  match q, hq with
  | 0, h => simpa [Cv.row] using h
  | 1, h => simpa [Cv.row] using h
  | 2, h => simpa [Cv.row] using h
  | 3, h => simpa [Cv.row] using h
  | q + 4, h => simp at h
end Go.Proofs.Ytiadfbcdopfibaa
