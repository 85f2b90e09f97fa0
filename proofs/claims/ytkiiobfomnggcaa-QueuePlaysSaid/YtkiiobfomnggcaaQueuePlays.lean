/-
  QueuePlays: a queue, under any calls, beside the document's (printed by wip/gen_qpl.py).
-/
import Derived.Test.YtkiiobfomnggcaaQP
namespace Go.Proofs.Ytkiiobfomnggcaa.queuePlays
open Go.RowKit Go.Shelf
set_option linter.unusedVariables false
set_option linter.unusedSimpArgs false
set_option maxRecDepth 100000
attribute [local go_sem] Oper.semAt_some

theorem buildRQ (n : Int) (w : World) : (Instr.build 63 #[(0, .int .i64 n)]).run Try.prog w = .ok (.agg #[.int .i64 n, .slice none 0 0]) w := by kernel_rfl
theorem buildRB (i n : Int) (b : Int) (A : Option Addr) (m c : Nat) (w : World) : (Instr.build 68 #[(0, .int .i64 i), (1, .int .i64 n), (2, .agg #[.int .i64 2, .int .i64 0, .int .i64 b, .int .i64 0, .slice A m c, .int .i64 0, .int .i64 0, .int .i64 0, .int .i64 0, .int .i64 0, .bool false])]).run Try.prog w = .ok (.agg (wrb i n 2 b A m c).toArray) w := by kernel_rfl
theorem buildWB (i n : Int) (b : Int) (A : Option Addr) (m c : Nat) (w : World) : (Instr.build 48 #[(0, .int .i64 i), (1, .int .i64 n), (2, .agg #[.int .i64 2, .int .i64 0, .int .i64 b, .int .i64 0, .slice A m c, .int .i64 0, .int .i64 0, .int .i64 0, .int .i64 0, .int .i64 0, .bool false])]).run Try.prog w = .ok (.agg (wrb i n 2 b A m c).toArray) w := by kernel_rfl
def InvQ (w : World) (g5 g6 gq g9 gm n mm : Nat) (A : Option Addr) (N c : Nat) (a : Act) (wr : World) : Prop := ∃ (i : Nat) (ps : List Wt) (Ds : List Nat) (y0 y1 y2 y3 y4 y10 y11 y12 y13 y14 y15 y16 y17 y18 y19 y20 y21 y22 y23 y24 y25 y26 y27 y28 y29 y30 y31 y32 y33 y34 y35 y36 y37 y38 y39 y40 y41 y42 y43 y44 y45 y46 y47 y48 y49 y50 y51 y52 y53 y54 y55 y56 y60 y61 y62 y63 y64 y65 y66 y67 y68 y69 y70 y71 y72 y73 y74 y75 y76 y77 y78 y79 y80 y81 y82 y83 y84 y85 y86 y87 y88 y89 y90 y91 y92 y93 y94 y95 y96 y97 y98 y99 y100 y101 y102 y103 y104 y105 y106 y107 y108 y109 y110 y111 y112 y113 y114 y115 y116 y117 y118 y119 y120 y121 y122 y123 y124 y125 y126 y127 y128 y129 y130 y131 y132 y133 y134 y135 y136 y137 y138 y139 y140 y141 y142 y143 y144 y145 y146 y147 y148 y149 y150 y151 y152 y153 y154 y155 y156 y157 y158 y159 y160 y161 y162 y163 y164 y165 y166 y167 y168 y169 y170 y171 y172 y173 y174 y175 y176 y177 y178 y179 y180 y181 y182 y183 y184 y185 y186 y187 y188 y189 y190 y191 y192 y193 y194 y195 y196 y197 y198 y199 y200 : Value), i ≤ N ∧ Pl w.heap.size g5 g6 gq g9 gm n mm ps ps Ds wr ∧ Below w.heap.size w wr ∧ a = { tmps := (y0 :: y1 :: y2 :: y3 :: y4 :: (.pointer (some ⟨g5, 0, none⟩)) :: (.pointer (some ⟨g6, 0, none⟩)) :: (.pointer (some ⟨gq, 0, none⟩)) :: (.nilIface) :: (.pointer (some ⟨g9, 0, none⟩)) :: y10 :: y11 :: y12 :: y13 :: y14 :: y15 :: y16 :: y17 :: y18 :: y19 :: y20 :: y21 :: y22 :: y23 :: y24 :: y25 :: y26 :: y27 :: y28 :: y29 :: y30 :: y31 :: y32 :: y33 :: y34 :: y35 :: y36 :: y37 :: y38 :: y39 :: y40 :: y41 :: y42 :: y43 :: y44 :: y45 :: y46 :: y47 :: y48 :: y49 :: y50 :: y51 :: y52 :: y53 :: y54 :: y55 :: y56 :: (.slice A N c) :: (.int .i64 (N : Int)) :: (.int .i64 (i : Int)) :: y60 :: y61 :: y62 :: y63 :: y64 :: y65 :: y66 :: y67 :: y68 :: y69 :: y70 :: y71 :: y72 :: y73 :: y74 :: y75 :: y76 :: y77 :: y78 :: y79 :: y80 :: y81 :: y82 :: y83 :: y84 :: y85 :: y86 :: y87 :: y88 :: y89 :: y90 :: y91 :: y92 :: y93 :: y94 :: y95 :: y96 :: y97 :: y98 :: y99 :: y100 :: y101 :: y102 :: y103 :: y104 :: y105 :: y106 :: y107 :: y108 :: y109 :: y110 :: y111 :: y112 :: y113 :: y114 :: y115 :: y116 :: y117 :: y118 :: y119 :: y120 :: y121 :: y122 :: y123 :: y124 :: y125 :: y126 :: y127 :: y128 :: y129 :: y130 :: y131 :: y132 :: y133 :: y134 :: y135 :: y136 :: y137 :: y138 :: y139 :: y140 :: y141 :: y142 :: y143 :: y144 :: y145 :: y146 :: y147 :: y148 :: y149 :: y150 :: y151 :: y152 :: y153 :: y154 :: y155 :: y156 :: y157 :: y158 :: y159 :: y160 :: y161 :: y162 :: y163 :: y164 :: y165 :: y166 :: y167 :: y168 :: y169 :: y170 :: y171 :: y172 :: y173 :: y174 :: y175 :: y176 :: y177 :: y178 :: y179 :: y180 :: y181 :: y182 :: y183 :: y184 :: y185 :: y186 :: y187 :: y188 :: y189 :: y190 :: y191 :: y192 :: y193 :: y194 :: y195 :: y196 :: y197 :: y198 :: y199 :: y200 :: []).toArray, defers := Ds.map mkD }
def Mid1 (w : World) (g5 g6 gq g9 gm n mm : Nat) (A : Option Addr) (N c : Nat) (i : Nat) (Ds : List Nat) (a : Act) (wr : World) : Prop := ∃ (ps : List Wt) (y0 y1 y2 y3 y4 y10 y11 y12 y13 y14 y15 y16 y17 y18 y19 y20 y21 y22 y23 y24 y25 y26 y27 y28 y29 y30 y31 y32 y33 y34 y35 y36 y37 y38 y39 y40 y41 y42 y43 y44 y45 y46 y47 y48 y49 y50 y51 y52 y53 y54 y55 y56 y60 y61 y62 y63 y64 y65 y66 y67 y68 y69 y70 y71 y72 y73 y74 y75 y76 y77 y78 y79 y80 y81 y82 y83 y84 y85 y86 y87 y88 y89 y90 y91 y92 y93 y94 y95 y96 y97 y98 y99 y100 y101 y102 y103 y104 y105 y106 y107 y108 y109 y110 y111 y112 y113 y114 y115 y116 y117 y118 y119 y120 y121 y122 y123 y124 y125 y126 y127 y128 y129 y130 y131 y132 y133 y134 y135 y136 y137 y138 y139 y140 y141 y142 y143 y144 y145 y146 y147 y148 y149 y150 y151 y152 y153 y154 y155 y156 y157 y158 y159 y160 y161 y162 y163 y164 y165 y166 y167 y168 y169 y170 y171 y172 y173 y174 y175 y176 y177 y178 y179 y180 y181 y182 y183 y184 y185 y186 y187 y188 y189 y190 y191 y192 y193 y194 y195 y196 y197 y198 y199 y200 : Value), Pl w.heap.size g5 g6 gq g9 gm n mm ps ps Ds wr ∧ Below w.heap.size w wr ∧ a = { tmps := (y0 :: y1 :: y2 :: y3 :: y4 :: (.pointer (some ⟨g5, 0, none⟩)) :: (.pointer (some ⟨g6, 0, none⟩)) :: (.pointer (some ⟨gq, 0, none⟩)) :: (.nilIface) :: (.pointer (some ⟨g9, 0, none⟩)) :: y10 :: y11 :: y12 :: y13 :: y14 :: y15 :: y16 :: y17 :: y18 :: y19 :: y20 :: y21 :: y22 :: y23 :: y24 :: y25 :: y26 :: y27 :: y28 :: y29 :: y30 :: y31 :: y32 :: y33 :: y34 :: y35 :: y36 :: y37 :: y38 :: y39 :: y40 :: y41 :: y42 :: y43 :: y44 :: y45 :: y46 :: y47 :: y48 :: y49 :: y50 :: y51 :: y52 :: y53 :: y54 :: y55 :: y56 :: (.slice A N c) :: (.int .i64 (N : Int)) :: (.int .i64 (i : Int)) :: y60 :: y61 :: y62 :: y63 :: y64 :: y65 :: y66 :: y67 :: y68 :: y69 :: y70 :: y71 :: y72 :: y73 :: y74 :: y75 :: y76 :: y77 :: y78 :: y79 :: y80 :: y81 :: y82 :: y83 :: y84 :: y85 :: y86 :: y87 :: y88 :: y89 :: y90 :: y91 :: y92 :: y93 :: y94 :: y95 :: y96 :: y97 :: y98 :: y99 :: y100 :: y101 :: y102 :: y103 :: y104 :: y105 :: y106 :: y107 :: y108 :: y109 :: y110 :: y111 :: y112 :: y113 :: y114 :: y115 :: y116 :: y117 :: y118 :: y119 :: y120 :: y121 :: y122 :: y123 :: y124 :: y125 :: y126 :: y127 :: y128 :: y129 :: y130 :: y131 :: y132 :: y133 :: y134 :: y135 :: y136 :: y137 :: y138 :: y139 :: y140 :: y141 :: y142 :: y143 :: y144 :: y145 :: y146 :: y147 :: y148 :: y149 :: y150 :: y151 :: y152 :: y153 :: y154 :: y155 :: y156 :: y157 :: y158 :: y159 :: y160 :: y161 :: y162 :: y163 :: y164 :: y165 :: y166 :: y167 :: y168 :: y169 :: y170 :: y171 :: y172 :: y173 :: y174 :: y175 :: y176 :: y177 :: y178 :: y179 :: y180 :: y181 :: y182 :: y183 :: y184 :: y185 :: y186 :: y187 :: y188 :: y189 :: y190 :: y191 :: y192 :: y193 :: y194 :: y195 :: y196 :: y197 :: y198 :: y199 :: y200 :: []).toArray, defers := Ds.map mkD }
def Mid2 (w : World) (g5 g6 gq g9 gm n mm : Nat) (A : Option Addr) (N c : Nat) (i : Nat) (ps : List Wt) (Ds : List Nat) (a : Act) (wr : World) : Prop := ∃ (D k g19 : Nat) (y0 y1 y2 y3 y4 y10 y11 y12 y13 y14 y15 y16 y17 y18 y20 y21 y22 y23 y24 y25 y26 y27 y28 y29 y30 y31 y32 y33 y34 y35 y36 y37 y38 y39 y40 y41 y42 y43 y44 y45 y46 y47 y48 y49 y50 y51 y52 y53 y54 y55 y56 y60 y61 y62 y63 y64 y65 y66 y67 y68 y69 y70 y71 y72 y73 y74 y75 y76 y77 y78 y79 y80 y81 y82 y83 y84 y85 y86 y87 y88 y89 y90 y91 y92 y93 y94 y95 y96 y97 y98 y99 y100 y101 y102 y103 y104 y105 y106 y107 y108 y109 y110 y111 y112 y113 y114 y115 y116 y117 y118 y119 y120 y121 y122 y123 y124 y125 y126 y127 y128 y129 y130 y131 y132 y133 y134 y135 y136 y137 y138 y139 y140 y141 y142 y143 y144 y145 y146 y147 y148 y149 y150 y151 y152 y153 y154 y155 y156 y157 y158 y159 y160 y161 y162 y163 y164 y165 y166 y167 y168 y169 y170 y171 y172 y173 y174 y175 y176 y177 y178 y179 y180 y181 y182 y183 y184 y185 y186 y187 y188 y189 y190 y191 y192 y193 y194 y195 y196 y197 y198 y199 y200 : Value), k = min mm ps.length ∧ Blk wr g19 3 #[.int .i64 (k : Int)] ∧ Pl w.heap.size g5 g6 gq g9 gm n mm ps ps (D :: Ds) wr ∧ Below w.heap.size w wr ∧ a = { tmps := (y0 :: y1 :: y2 :: y3 :: y4 :: (.pointer (some ⟨g5, 0, none⟩)) :: (.pointer (some ⟨g6, 0, none⟩)) :: (.pointer (some ⟨gq, 0, none⟩)) :: (.nilIface) :: (.pointer (some ⟨g9, 0, none⟩)) :: y10 :: y11 :: y12 :: y13 :: y14 :: y15 :: y16 :: y17 :: y18 :: (.pointer (some ⟨g19, 0, none⟩)) :: y20 :: y21 :: y22 :: y23 :: y24 :: y25 :: y26 :: y27 :: y28 :: y29 :: y30 :: y31 :: y32 :: y33 :: y34 :: y35 :: y36 :: y37 :: y38 :: y39 :: y40 :: y41 :: y42 :: y43 :: y44 :: y45 :: y46 :: y47 :: y48 :: y49 :: y50 :: y51 :: y52 :: y53 :: y54 :: y55 :: y56 :: (.slice A N c) :: (.int .i64 (N : Int)) :: (.int .i64 (i : Int)) :: y60 :: y61 :: y62 :: y63 :: y64 :: y65 :: y66 :: y67 :: y68 :: y69 :: y70 :: y71 :: y72 :: y73 :: y74 :: y75 :: y76 :: y77 :: y78 :: y79 :: y80 :: y81 :: y82 :: y83 :: y84 :: y85 :: y86 :: y87 :: y88 :: y89 :: y90 :: y91 :: y92 :: y93 :: y94 :: y95 :: y96 :: y97 :: y98 :: y99 :: y100 :: y101 :: y102 :: y103 :: y104 :: y105 :: y106 :: y107 :: y108 :: y109 :: y110 :: y111 :: y112 :: y113 :: y114 :: y115 :: y116 :: y117 :: y118 :: y119 :: y120 :: y121 :: y122 :: y123 :: y124 :: y125 :: y126 :: y127 :: y128 :: y129 :: y130 :: y131 :: y132 :: y133 :: y134 :: y135 :: y136 :: y137 :: y138 :: y139 :: y140 :: y141 :: y142 :: y143 :: y144 :: y145 :: y146 :: y147 :: y148 :: y149 :: y150 :: y151 :: y152 :: y153 :: y154 :: y155 :: y156 :: y157 :: y158 :: y159 :: y160 :: y161 :: y162 :: y163 :: y164 :: y165 :: y166 :: y167 :: y168 :: y169 :: y170 :: y171 :: y172 :: y173 :: y174 :: y175 :: y176 :: y177 :: y178 :: y179 :: y180 :: y181 :: y182 :: y183 :: y184 :: y185 :: y186 :: y187 :: y188 :: y189 :: y190 :: y191 :: y192 :: y193 :: y194 :: y195 :: y196 :: y197 :: y198 :: y199 :: y200 :: []).toArray, defers := (D :: Ds).map mkD }
def MuQ (N : Nat) (a : Act) (_ : World) : Nat := N - (intOf (a.tmps.getD 59 undef)).toNat
def cl : Code → Code
  | .seq a _ => a
  | c => c
def cr : Code → Code
  | .seq _ b => b
  | c => c
def ci : Code → Code
  | .block _ c => c
  | .loop c => c
  | c => c
def codeOf (f : Func) : Code := f.body.getD .skip
/-- What a round's switch is; what the range over the queue is. -/
def roundOf (c : Code) : Code := ci (cl (cr (cr (ci (ci (cr (cl (cr (cr (cr (cr (cr (cr (cr (cr c)))))))))))))))
def swOf (c : Code) : Code := cl (cr (roundOf c))
def rgOf (c : Code) : Code := cl (cr (cr (cr (roundOf c))))
theorem with_code {o c0 : Code} (h0 : o = c0) {M : Code → Prop} (h : M c0) : ∀ c, o = c → M c := by
  intro c hc
  rw [← hc, h0]
  exact h
set_option maxHeartbeats 8000000 in
theorem sw_full {w w1 : World} {g5 g6 gq g9 gm n mm gb off N c i g11 : Nat} {ps : List Wt} {Ds : List Nat} {o : Opw} (y0 y1 y2 y3 y4 y10 y12 y13 y14 y15 y16 y17 y18 y19 y20 y21 y22 y23 y24 y25 y26 y27 y28 y29 y30 y31 y32 y33 y34 y35 y36 y37 y38 y39 y40 y41 y42 y43 y44 y45 y46 y47 y48 y49 y50 y51 y52 y53 y54 y55 y56 y60 y61 y62 y63 y64 y65 y66 y67 y68 y69 y70 y71 y72 y73 y74 y75 y76 y77 y78 y79 y80 y81 y82 y83 y84 y85 y86 y87 y88 y89 y90 y91 y92 y93 y94 y95 y96 y97 y98 y99 y100 y101 y102 y103 y104 y105 y106 y107 y108 y109 y110 y111 y112 y113 y114 y115 y116 y117 y118 y119 y120 y121 y122 y123 y124 y125 y126 y127 y128 y129 y130 y131 y132 y133 y134 y135 y136 y137 y138 y139 y140 y141 y142 y143 y144 y145 y146 y147 y148 y149 y150 y151 y152 y153 y154 y155 y156 y157 y158 y159 y160 y161 y162 y163 y164 y165 y166 y167 y168 y169 y170 y171 y172 y173 y174 y175 y176 y177 y178 y179 y180 y181 y182 y183 y184 y185 y186 y187 y188 y189 y190 y191 y192 y193 y194 y195 y196 y197 y198 y199 y200 : Value) (hP1 : Pl w.heap.size g5 g6 gq g9 gm n mm ps ps Ds w1) (hW1 : Below w.heap.size w w1) (hB11 : Blk w1 g11 65 #[.int .i64 o.k, .int .i64 o.i, .int .i64 o.n, .slice o.A o.m o.c]) (hOK : o.ok w) (hpsn : ps.length ≤ n) (hk0 : o.k = 0) (hfull : ps.length = n) :
    ∀ cd, swOf (codeOf Try.f6) = cd → cd.wp Try.prog (Exit.then (Mid1 w g5 g6 gq g9 gm n mm (some ⟨gb, off, none⟩) N c i Ds) (fun _ _ _ => False)) { tmps := (y0 :: y1 :: y2 :: y3 :: y4 :: (.pointer (some ⟨g5, 0, none⟩)) :: (.pointer (some ⟨g6, 0, none⟩)) :: (.pointer (some ⟨gq, 0, none⟩)) :: (.nilIface) :: (.pointer (some ⟨g9, 0, none⟩)) :: y10 :: (.pointer (some ⟨g11, 0, none⟩)) :: y12 :: y13 :: y14 :: y15 :: y16 :: y17 :: y18 :: y19 :: y20 :: y21 :: y22 :: y23 :: y24 :: y25 :: y26 :: y27 :: y28 :: y29 :: y30 :: y31 :: y32 :: y33 :: y34 :: y35 :: y36 :: y37 :: y38 :: y39 :: y40 :: y41 :: y42 :: y43 :: y44 :: y45 :: y46 :: y47 :: y48 :: y49 :: y50 :: y51 :: y52 :: y53 :: y54 :: y55 :: y56 :: (.slice (some ⟨gb, off, none⟩) N c) :: (.int .i64 (N : Int)) :: (.int .i64 (i : Int)) :: y60 :: y61 :: y62 :: y63 :: y64 :: y65 :: y66 :: y67 :: y68 :: y69 :: y70 :: y71 :: y72 :: y73 :: y74 :: y75 :: y76 :: y77 :: y78 :: y79 :: y80 :: y81 :: y82 :: y83 :: y84 :: y85 :: y86 :: y87 :: y88 :: y89 :: y90 :: y91 :: y92 :: y93 :: y94 :: y95 :: y96 :: y97 :: y98 :: y99 :: y100 :: y101 :: y102 :: y103 :: y104 :: y105 :: y106 :: y107 :: y108 :: y109 :: y110 :: y111 :: y112 :: y113 :: y114 :: y115 :: y116 :: y117 :: y118 :: y119 :: y120 :: y121 :: y122 :: y123 :: y124 :: y125 :: y126 :: y127 :: y128 :: y129 :: y130 :: y131 :: y132 :: y133 :: y134 :: y135 :: y136 :: y137 :: y138 :: y139 :: y140 :: y141 :: y142 :: y143 :: y144 :: y145 :: y146 :: y147 :: y148 :: y149 :: y150 :: y151 :: y152 :: y153 :: y154 :: y155 :: y156 :: y157 :: y158 :: y159 :: y160 :: y161 :: y162 :: y163 :: y164 :: y165 :: y166 :: y167 :: y168 :: y169 :: y170 :: y171 :: y172 :: y173 :: y174 :: y175 :: y176 :: y177 :: y178 :: y179 :: y180 :: y181 :: y182 :: y183 :: y184 :: y185 :: y186 :: y187 :: y188 :: y189 :: y190 :: y191 :: y192 :: y193 :: y194 :: y195 :: y196 :: y197 :: y198 :: y199 :: y200 :: []).toArray, defers := Ds.map mkD } w1 := by
  intro cd hcd
  dsimp only [swOf, roundOf, codeOf, Try.f6, cl, cr, ci, Option.getD_some] at hcd
  subst hcd
  have HP1 := Lib.hid hP1
  have HW1 := Lib.hid hW1
  have HB11 := Lib.hid hB11
  have HOK := Lib.hid hOK
  clear hP1 hW1 hB11 hOK
  have hkb : (o.k == 0) = true := by simp [hk0]
  have dK : w1.cell? ⟨g11, 0, none⟩ = some (.int .i64 o.k) := by rw [HB11.out.cell]; rfl
  have HK0 := Lib.hid hk0
  have hom := HOK.out.2
  have hg11 := HB11.out.lt
  have hSD1 : SlB w1 w.heap.size o.A o.m o.c o.ds := HOK.out.1.below HW1.out
  have hzw1 := HW1.out.size
  clear hk0
  go_wp2_with (first
    | ((with_reducible show wpList _ _ _ (Oper.mk (some 76) (Op.load _ _) _ _ _ _ :: _) _ _); refine wpList_load_whole (by rfl) 65 (.tmp 11) rfl g11 rfl #[.int .i64 o.k, .int .i64 o.i, .int .i64 o.n, .slice o.A o.m o.c] aggOp9 rfl _ HB11.out ?_)
    | (go_at_call 22; refine (cmd_c o.k o.i o.n o.A o.m o.c).mono ?_; rintro e w2 ⟨rfl, hb12⟩; have bn12 := Blk.new w2 46 #[.int .i64 0, .int .i64 0, .int .i64 0, .int .i64 0, .slice none 0 0, .int .i64 0, .int .i64 0, .int .i64 0, .int .i64 0, .int .i64 0, .bool false])
    | ((with_reducible show wpList _ _ _ (Oper.mk (some 12) (Op.alloc _) _ _ _ _ :: _) _ _); refine wpList_alloc_agg rfl 46 rfl #[.int .i64 0, .int .i64 0, .int .i64 0, .int .i64 0, .slice none 0 0, .int .i64 0, .int .i64 0, .int .i64 0, .int .i64 0, .int .i64 0, .bool false] zeroCm9 ?_)
    | ((with_reducible show wpList _ _ _ (Oper.mk none (Op.store _ (.tmp 12) _) _ _ _ _ :: _) _ _); refine wpList_store_whole rfl 46 (.tmp 12) (.tmp 77) rfl w2.heap.size rfl [.int .i64 2, .int .i64 0, .int .i64 o.n, .int .i64 0, .slice o.A o.m o.c, .int .i64 0, .int .i64 0, .int .i64 0, .int .i64 0, .int .i64 0, .bool false] rfl aggCmd rfl _ _ bn12 rfl (by simp [Value.oneCell']) ?_; intro w3 b12 q12 s12; have h23 : Below w2.heap.size w2 w3 := (below_alloc _ _).grown q12 (by simp) (fun k hk => by cases hk; exact Nat.le_refl _); have h13 : Below w1.heap.size w1 w3 := hb12.trans (h23.mono hb12.size); obtain ⟨g12, hg12⟩ : ∃ g, g = w2.heap.size := ⟨_, rfl⟩; rw [← hg12] at b12 ⊢; have hg12l := b12.lt; have hg12w : w1.heap.size ≤ g12 := (by have := hb12.size; omega); have HB12 := Lib.hid b12; have HB113 := Lib.hid (HB11.out.below h13 HB11.out.lt); have dA3 : w3.cell? ⟨g11, 3, none⟩ = some (.slice o.A o.m o.c) := (by rw [HB113.out.cell]; rfl); have HSD3 := Lib.hid (hSD1.below (h13.mono hzw1)); have hz13 := h13.size; have H13 := Lib.hid h13; clear b12 q12 s12 bn12 hg12 h23 hb12 h13)
    | (go_at_call 9; refine (copy_c HSD3.out (by omega) (by omega)).mono ?_; rintro e w4 ⟨rfl, ho4, hb34⟩; obtain ⟨gk, hgk⟩ : ∃ g, g = w3.heap.size := ⟨_, rfl⟩; rw [← hgk] at ho4 ⊢; have hz34 := hb34.size; have hgkw : gk < w4.heap.size := (by obtain ⟨g', cur, e1, _, hb, _⟩ := ho4.2.2.2 (by omega); cases e1; exact hb.lt); have hg12k : g12 < gk ∧ w3.heap.size ≤ gk := (by omega); have b124 := HB12.out.below hb34 HB12.out.lt; have d124 : w4.cell? ⟨g12, 4, none⟩ = some (.slice o.A o.m o.c) := (by rw [b124.cell]; rfl); have f124 := b124.frozen 4; obtain ⟨w5, hw5⟩ : ∃ x, x = w4.setCell ⟨g12, 4, none⟩ (.slice (some ⟨gk, 0, none⟩) o.m (o.m + 2)) := ⟨_, rfl⟩; have b125 : Blk w5 g12 46 #[.int .i64 2, .int .i64 0, .int .i64 o.n, .int .i64 0, .slice (some ⟨gk, 0, none⟩) o.m (o.m + 2), .int .i64 0, .int .i64 0, .int .i64 0, .int .i64 0, .int .i64 0, .bool false] := (by rw [hw5]; simpa using b124.set_ 4 (.slice (some ⟨gk, 0, none⟩) o.m (o.m + 2))); have h15 : Below w1.heap.size w1 w5 := (by rw [hw5]; exact (H13.out.trans (hb34.mono hz13)).setCell (p := ⟨g12, 4, none⟩) hg12w _); have HO5 := Lib.hid (show OwB w5 gk (some ⟨gk, 0, none⟩) (o.m + 2) (o.m + 2) (o.ds ++ [0xa5, 0x5a]) by rw [hw5]; exact Row.farC ho4 (by omega) 4 _); have HT5 := Lib.hid (show OwB w5 gk (some ⟨gk, 0, none⟩) o.m (o.m + 2) o.ds from (List.take_left' HOK.out.1.len : (o.ds ++ [0xa5, 0x5a]).take o.m = o.ds) ▸ OwB.trim HO5.out (k := o.m) (by omega)); have hz45 : w5.heap.size = w4.heap.size := (by rw [hw5]; simp); have b115 := HB11.out.below h15 HB11.out.lt; have d151 : (w4.setCell ⟨g12, 4, none⟩ (.slice (some ⟨gk, 0, none⟩) o.m (o.m + 2))).cell? ⟨g11, 1, none⟩ = some (.int .i64 o.i) := (by rw [← hw5, b115.cell]; rfl); have d152 : (w4.setCell ⟨g12, 4, none⟩ (.slice (some ⟨gk, 0, none⟩) o.m (o.m + 2))).cell? ⟨g11, 2, none⟩ = some (.int .i64 o.n) := (by rw [← hw5, b115.cell]; rfl); have HB115 := Lib.hid b115; have HB125 := Lib.hid b125; have H15 := Lib.hid h15; have hz5g : gk < w5.heap.size := (by omega); have hz15 := h15.size; have HP5 := Lib.hid (HP1.out.below h15); have HW5 := Lib.hid (HW1.out.trans (h15.mono hzw1)); have HV5 := Lib.hid hw5; have HSD5 := Lib.hid (hSD1.below (h15.mono hzw1)); clear hgk ho4 hb34 b124 b125 b115 h15 hw5 hz45)
    | ((with_reducible show wpList _ _ _ (Oper.mk (some 87) (Op.load _ _) _ _ _ _ :: _) _ _); rw [← HV5.out]; refine wpList_load_whole (by rfl) 46 (.tmp 12) rfl g12 rfl #[.int .i64 2, .int .i64 0, .int .i64 o.n, .int .i64 0, .slice (some ⟨gk, 0, none⟩) o.m (o.m + 2), .int .i64 0, .int .i64 0, .int .i64 0, .int .i64 0, .int .i64 0, .bool false] aggCmd rfl _ HB125.out ?_)
    | ((with_reducible show wpList _ _ _ (Oper.mk (some 88) (Op.build _ _) _ _ _ _ :: _) _ _); refine wpList_build (by rfl) 48 _ rfl #[(0, .int .i64 o.i), (1, .int .i64 o.n), (2, .agg #[.int .i64 2, .int .i64 0, .int .i64 o.n, .int .i64 0, .slice (some ⟨gk, 0, none⟩) o.m (o.m + 2), .int .i64 0, .int .i64 0, .int .i64 0, .int .i64 0, .int .i64 0, .bool false])] (by simp only [List.map_toArray, List.map_cons, List.map_nil]; rfl) _ (buildWB _ _ _ _ _ _) ?_)
    | (go_at_call 16; refine (putW_full HP5.out.q (by rw [List.length_map]; exact hfull) _).mono ?_; rintro e w6 ⟨rfl, hb56⟩))
  have H56 := Lib.hid hb56
  have hz56 := hb56.size
  have HP6 := Lib.hid (HP5.out.below hb56)
  have HW6 := Lib.hid (HW5.out.trans (hb56.mono HW5.out.size))
  have HO6 := Lib.hid (OwB.below HO5.out hb56)
  have HB116 := Lib.hid (HB115.out.below hb56 HB115.out.lt)
  have HB126 := Lib.hid (HB125.out.below hb56 HB125.out.lt)
  have HB96 := Lib.hid HP6.out.b9
  clear hb56 HB115 HB125 HO5
  refine (wpIn_wide (n := 4)).1 ?_
  refine wpIn_region_rel free_wide rfl 8 (fun W W' => Below W.heap.size W W') (fun W => Below w6.heap.size w6 W)
    [Det (.pointer (some ⟨gm, 0, none⟩)), Det (.pointer (some ⟨g11, 1, none⟩)), Det (.int .i64 o.i), Det (.pointer (some ⟨g11, 2, none⟩)), Det (.int .i64 o.n), Det (.agg #[.int .i64 o.k, .int .i64 o.i, .int .i64 o.n, .slice o.A o.m o.c]), Det (.agg #[.int .i64 2, .int .i64 0, .int .i64 o.n, .int .i64 0, .slice o.A o.m o.c, .int .i64 0, .int .i64 0, .int .i64 0, .int .i64 0, .int .i64 0, .bool false]), Det (.agg (wrb o.i o.n 2 o.n o.A o.m o.c).toArray), Any, Any]
    [[], [], [(1, some 91)], [], [(3, some 93)], [], [(5, some 95)], [(2, some 92), (4, some 94), (6, some 96)], [(0, some 90), (7, some 97)], [(8, some 98)]]
    [[], [], [1], [], [3], [], [5], [1, 2, 3, 4, 5, 6], [0, 1, 2, 3, 4, 5, 6, 7], [0, 1, 2, 3, 4, 5, 6, 7, 8]]
    [(0, some 90), (1, some 91), (2, some 92), (3, some 93), (4, some 94), (5, some 95), (6, some 96), (7, some 97), (8, some 98), (9, some 14)] (by kernel_rfl) (by kernel_rfl) (by kernel_rfl) (fun W W' h1 h2 => h1.trans (h2.mono h1.size)) ((Below.refl _ _).drew) ?_ ?_ ?_
  · exact (AllMono.cons Det.later (AllMono.cons Det.later (AllMono.cons Det.later (AllMono.cons Det.later (AllMono.cons Det.later (AllMono.cons Det.later (AllMono.cons Det.later (AllMono.cons Det.later (AllMono.cons Any.later (AllMono.cons Any.later AllMono.nil))))))))))
  · refine AllOb.cons ?_ (AllOb.cons ?_ (AllOb.cons ?_ (AllOb.cons ?_ (AllOb.cons ?_ (AllOb.cons ?_ (AllOb.cons ?_ (AllOb.cons ?_ (AllOb.nil))))))))
    · intro uF W hC' hU aF hF
      have hC : Below w6.heap.size w6 W := hC'
      clear hC'
      simp only [puts] at hF
      subst hF
      have d_g9 : W.cell? ⟨g9, 0, none⟩ = some (.pointer (some ⟨gm, 0, none⟩)) := by rw [(HB96.out.below hC HB96.out.lt).cell]; rfl
      go_wp2_with (fail)
      exact ⟨rfl, rfl, (Below.refl _ _), rfl⟩
    · intro uF W hC' hU aF hF
      have hC : Below w6.heap.size w6 W := hC'
      clear hC'
      simp only [puts] at hF
      subst hF
      go_wp2_with (fail)
      exact ⟨rfl, rfl, (Below.refl _ _), rfl⟩
    · intro uF W hC' hU aF hF
      have hC : Below w6.heap.size w6 W := hC'
      clear hC'
      have h91 : (Det (.pointer (some ⟨g11, 1, none⟩))) (uF 1) W := hU.1
      clear hU
      simp only [puts, Act.put, List.setIfInBounds_toArray, List.set_cons_zero, List.set_cons_succ] at hF
      generalize uF 1 = x91 at h91 hF
      obtain rfl : x91 = (.pointer (some ⟨g11, 1, none⟩)) := h91
      subst hF
      have d_1 : W.cell? ⟨g11, 1, none⟩ = some (.int .i64 o.i) := by rw [(HB116.out.below hC HB116.out.lt).cell]; rfl
      go_wp2_with (fail)
      exact ⟨rfl, rfl, (Below.refl _ _), rfl⟩
    · intro uF W hC' hU aF hF
      have hC : Below w6.heap.size w6 W := hC'
      clear hC'
      simp only [puts] at hF
      subst hF
      go_wp2_with (fail)
      exact ⟨rfl, rfl, (Below.refl _ _), rfl⟩
    · intro uF W hC' hU aF hF
      have hC : Below w6.heap.size w6 W := hC'
      clear hC'
      have h93 : (Det (.pointer (some ⟨g11, 2, none⟩))) (uF 3) W := hU.1
      clear hU
      simp only [puts, Act.put, List.setIfInBounds_toArray, List.set_cons_zero, List.set_cons_succ] at hF
      generalize uF 3 = x93 at h93 hF
      obtain rfl : x93 = (.pointer (some ⟨g11, 2, none⟩)) := h93
      subst hF
      have d_2 : W.cell? ⟨g11, 2, none⟩ = some (.int .i64 o.n) := by rw [(HB116.out.below hC HB116.out.lt).cell]; rfl
      go_wp2_with (fail)
      exact ⟨rfl, rfl, (Below.refl _ _), rfl⟩
    · intro uF W hC' hU aF hF
      have hC : Below w6.heap.size w6 W := hC'
      clear hC'
      simp only [puts] at hF
      subst hF
      go_wp2_with (((with_reducible show wpList _ _ _ (Oper.mk _ (Op.load _ _) _ _ _ _ :: _) _ _); refine wpList_load_whole (by rfl) 65 (.tmp 11) rfl g11 rfl #[.int .i64 o.k, .int .i64 o.i, .int .i64 o.n, .slice o.A o.m o.c] aggOp9 rfl _ (HB116.out.below hC HB116.out.lt) ?_))
      exact ⟨rfl, rfl, (Below.refl _ _), rfl⟩
    · intro uF W hC' hU aF hF
      have hC : Below w6.heap.size w6 W := hC'
      clear hC'
      have h95 : (Det (.agg #[.int .i64 o.k, .int .i64 o.i, .int .i64 o.n, .slice o.A o.m o.c])) (uF 5) W := hU.1
      clear hU
      simp only [puts, Act.put, List.setIfInBounds_toArray, List.set_cons_zero, List.set_cons_succ] at hF
      generalize uF 5 = x95 at h95 hF
      obtain rfl : x95 = (.agg #[.int .i64 o.k, .int .i64 o.i, .int .i64 o.n, .slice o.A o.m o.c]) := h95
      subst hF
      go_wp2_with ((go_at_call 22; refine (cmd_c o.k o.i o.n o.A o.m o.c).mono ?_; rintro e W1 ⟨rfl, hb⟩))
      exact ⟨rfl, rfl, hb, rfl⟩
    · intro uF W hC' hU aF hF
      have hC : Below w6.heap.size w6 W := hC'
      clear hC'
      have h92 : (Det (.int .i64 o.i)) (uF 2) W := hU.1
      have h94 : (Det (.int .i64 o.n)) (uF 4) W := hU.2.1
      have h96 : (Det (.agg #[.int .i64 2, .int .i64 0, .int .i64 o.n, .int .i64 0, .slice o.A o.m o.c, .int .i64 0, .int .i64 0, .int .i64 0, .int .i64 0, .int .i64 0, .bool false])) (uF 6) W := hU.2.2.1
      clear hU
      simp only [puts, Act.put, List.setIfInBounds_toArray, List.set_cons_zero, List.set_cons_succ] at hF
      generalize uF 2 = x92 at h92 hF
      generalize uF 4 = x94 at h94 hF
      generalize uF 6 = x96 at h96 hF
      obtain rfl : x92 = (.int .i64 o.i) := h92
      obtain rfl : x94 = (.int .i64 o.n) := h94
      obtain rfl : x96 = (.agg #[.int .i64 2, .int .i64 0, .int .i64 o.n, .int .i64 0, .slice o.A o.m o.c, .int .i64 0, .int .i64 0, .int .i64 0, .int .i64 0, .int .i64 0, .bool false]) := h96
      subst hF
      go_wp2_with (((with_reducible show wpList _ _ _ (Oper.mk _ (Op.build _ _) _ _ _ _ :: _) _ _); refine wpList_build (by rfl) 68 _ rfl #[(0, .int .i64 o.i), (1, .int .i64 o.n), (2, .agg #[.int .i64 2, .int .i64 0, .int .i64 o.n, .int .i64 0, .slice o.A o.m o.c, .int .i64 0, .int .i64 0, .int .i64 0, .int .i64 0, .int .i64 0, .bool false])] (by simp only [List.map_toArray, List.map_cons, List.map_nil]; rfl) _ (buildRB _ _ _ _ _ _) ?_))
      exact ⟨rfl, rfl, (Below.refl _ _), rfl⟩
  intro uF w7 hC' hU aF hF
  have hCw7 : Below w6.heap.size w6 w7 := hC'
  clear hC'
  have h90 : (Det (.pointer (some ⟨gm, 0, none⟩))) (uF 0) w7 := hU.1
  have h97 : (Det (.agg (wrb o.i o.n 2 o.n o.A o.m o.c).toArray)) (uF 7) w7 := hU.2.2.2.2.2.2.2.1
  clear hU
  simp only [List.take_succ_cons, List.take_zero, puts, Act.put, List.setIfInBounds_toArray, List.set_cons_zero, List.set_cons_succ] at hF
  generalize uF 0 = x90 at h90 hF
  generalize uF 1 = x91 at hF
  generalize uF 2 = x92 at hF
  generalize uF 3 = x93 at hF
  generalize uF 4 = x94 at hF
  generalize uF 5 = x95 at hF
  generalize uF 6 = x96 at hF
  generalize uF 7 = x97 at h97 hF
  obtain rfl : x90 = (.pointer (some ⟨gm, 0, none⟩)) := h90
  obtain rfl : x97 = (.agg (wrb o.i o.n 2 o.n o.A o.m o.c).toArray) := h97
  subst hF
  simp only [List.drop_succ_cons, List.drop_zero]
  have P7 := HP6.out.below hCw7
  have HW7 := HW6.out.trans (hCw7.mono HW6.out.size)
  have HO7 := Lib.hid (OwB.below HO6.out hCw7)
  have HB117 := Lib.hid (HB116.out.below hCw7 HB116.out.lt)
  have HB127 := Lib.hid (HB126.out.below hCw7 HB126.out.lt)
  have HP7 := Lib.hid P7
  have HWW7 := Lib.hid HW7
  clear P7 HW7 hCw7
  gi_wp2
  refine ⟨trivial, callsIn_wide.2 ((rput_no HP7.out.r (by rw [List.length_map]; exact hfull) (wrb o.i o.n 2 o.n o.A o.m o.c)).mono ?_)⟩
  rintro e w8 ⟨rfl, hb78⟩
  have HP8 := Lib.hid (HP7.out.below hb78)
  have HW8 := Lib.hid (HWW7.out.trans (hb78.mono HWW7.out.size))
  have HO8 := Lib.hid (OwB.below HO7.out hb78)
  have b118 := HB117.out.below hb78 HB117.out.lt
  have b128 := HB127.out.below hb78 HB127.out.lt
  have dC8 : w8.cell? ⟨g12, 4, none⟩ = some (.slice (some ⟨gk, 0, none⟩) o.m (o.m + 2)) := by rw [b128.cell]; rfl
  have dA8 : w8.cell? ⟨g11, 3, none⟩ = some (.slice o.A o.m o.c) := by rw [b118.cell]; rfl
  have HSD8 := Lib.hid (HOK.out.1.below HW8.out)
  have htk : (o.ds ++ [0xa5, 0x5a]).take o.m = o.ds := List.take_left' HOK.out.1.len
  have HT8 := Lib.hid (show OwB w8 gk (some ⟨gk, 0, none⟩) o.m (o.m + 2) o.ds from htk ▸ OwB.trim HO8.out (k := o.m) (by omega))
  obtain ⟨g', cur, e1, _, hkb8, _⟩ := HO8.out.2.2.2 (by omega)
  cases e1
  have HKB8 := Lib.hid hkb8
  clear hb78 b118 b128 htk hkb8
  gi_wp2
  go_wp2_with (first
    | (go_at_call 21; refine (is_err 8 8 rfl true rfl _).mono ?_; rintro e w' ⟨rfl, rfl⟩)
    | (go_at_call 24; refine (kept_c HO8.out.sl HSD8.out (by omega)).mono ?_; rintro e w' ⟨rfl, rfl⟩)
    | (go_at_call 11; refine (over_c HT8.out (by omega)).mono ?_; rintro e w9 ⟨rfl, hg89⟩))
  have hwk : wrote (some ⟨gk, 0, none⟩) (o.m + 2) = some gk := by rw [wrote, if_neg (by omega)]; rfl
  rw [hwk] at hg89
  have HP9 := Lib.hid (HP8.out.over HKB8.out hg89 (by have := HW1.out.size; omega) (fun x hx e => by
      have hfar : False := by
          rcases Row.wrote_lt (HP1.out.dq x hx).1 with h1 | ⟨g2, _, h1, _, hlt, _⟩
          · rw [h1] at e; cases e
          · rw [h1] at e; cases e; omega
      exact hfar))
  have HW9 := Lib.hid (HW8.out.grown hg89 HW8.out.size (fun k hk => by cases hk; have := HW1.out.size; omega))
  exact ⟨ps, _, _, _, _, _, _, _, _, _, _, _, _, _, _, _, _, _, _, _, _, _, _, _, _, _, _, _, _, _, _, _, _, _, _, _, _, _, _, _, _, _, _, _, _, _, _, _, _, _, _, _, _, _, _, _, _, _, _, _, _, _, _, _, _, _, _, _, _, _, _, _, _, _, _, _, _, _, _, _, _, _, _, _, _, _, _, _, _, _, _, _, _, _, _, _, _, _, _, _, _, _, _, _, _, _, _, _, _, _, _, _, _, _, _, _, _, _, _, _, _, _, _, _, _, _, _, _, _, _, _, _, _, _, _, _, _, _, _, _, _, _, _, _, _, _, _, _, _, _, _, _, _, _, _, _, _, _, _, _, _, _, _, _, _, _, _, _, _, _, _, _, _, _, _, _, _, _, _, _, _, _, _, _, _, _, _, _, _, _, _, _, _, _, HP9.out, HW9.out, rfl⟩

set_option maxHeartbeats 8000000 in
theorem sw_yes {w w1 : World} {g5 g6 gq g9 gm n mm gb off N c i g11 : Nat} {ps : List Wt} {Ds : List Nat} {o : Opw} (y0 y1 y2 y3 y4 y10 y12 y13 y14 y15 y16 y17 y18 y19 y20 y21 y22 y23 y24 y25 y26 y27 y28 y29 y30 y31 y32 y33 y34 y35 y36 y37 y38 y39 y40 y41 y42 y43 y44 y45 y46 y47 y48 y49 y50 y51 y52 y53 y54 y55 y56 y60 y61 y62 y63 y64 y65 y66 y67 y68 y69 y70 y71 y72 y73 y74 y75 y76 y77 y78 y79 y80 y81 y82 y83 y84 y85 y86 y87 y88 y89 y90 y91 y92 y93 y94 y95 y96 y97 y98 y99 y100 y101 y102 y103 y104 y105 y106 y107 y108 y109 y110 y111 y112 y113 y114 y115 y116 y117 y118 y119 y120 y121 y122 y123 y124 y125 y126 y127 y128 y129 y130 y131 y132 y133 y134 y135 y136 y137 y138 y139 y140 y141 y142 y143 y144 y145 y146 y147 y148 y149 y150 y151 y152 y153 y154 y155 y156 y157 y158 y159 y160 y161 y162 y163 y164 y165 y166 y167 y168 y169 y170 y171 y172 y173 y174 y175 y176 y177 y178 y179 y180 y181 y182 y183 y184 y185 y186 y187 y188 y189 y190 y191 y192 y193 y194 y195 y196 y197 y198 y199 y200 : Value) (hP1 : Pl w.heap.size g5 g6 gq g9 gm n mm ps ps Ds w1) (hW1 : Below w.heap.size w w1) (hB11 : Blk w1 g11 65 #[.int .i64 o.k, .int .i64 o.i, .int .i64 o.n, .slice o.A o.m o.c]) (hOK : o.ok w) (hpsn : ps.length ≤ n) (hk0 : o.k = 0) (hfull : ¬ ps.length = n) :
    ∀ cd, swOf (codeOf Try.f6) = cd → cd.wp Try.prog (Exit.then (Mid1 w g5 g6 gq g9 gm n mm (some ⟨gb, off, none⟩) N c i Ds) (fun _ _ _ => False)) { tmps := (y0 :: y1 :: y2 :: y3 :: y4 :: (.pointer (some ⟨g5, 0, none⟩)) :: (.pointer (some ⟨g6, 0, none⟩)) :: (.pointer (some ⟨gq, 0, none⟩)) :: (.nilIface) :: (.pointer (some ⟨g9, 0, none⟩)) :: y10 :: (.pointer (some ⟨g11, 0, none⟩)) :: y12 :: y13 :: y14 :: y15 :: y16 :: y17 :: y18 :: y19 :: y20 :: y21 :: y22 :: y23 :: y24 :: y25 :: y26 :: y27 :: y28 :: y29 :: y30 :: y31 :: y32 :: y33 :: y34 :: y35 :: y36 :: y37 :: y38 :: y39 :: y40 :: y41 :: y42 :: y43 :: y44 :: y45 :: y46 :: y47 :: y48 :: y49 :: y50 :: y51 :: y52 :: y53 :: y54 :: y55 :: y56 :: (.slice (some ⟨gb, off, none⟩) N c) :: (.int .i64 (N : Int)) :: (.int .i64 (i : Int)) :: y60 :: y61 :: y62 :: y63 :: y64 :: y65 :: y66 :: y67 :: y68 :: y69 :: y70 :: y71 :: y72 :: y73 :: y74 :: y75 :: y76 :: y77 :: y78 :: y79 :: y80 :: y81 :: y82 :: y83 :: y84 :: y85 :: y86 :: y87 :: y88 :: y89 :: y90 :: y91 :: y92 :: y93 :: y94 :: y95 :: y96 :: y97 :: y98 :: y99 :: y100 :: y101 :: y102 :: y103 :: y104 :: y105 :: y106 :: y107 :: y108 :: y109 :: y110 :: y111 :: y112 :: y113 :: y114 :: y115 :: y116 :: y117 :: y118 :: y119 :: y120 :: y121 :: y122 :: y123 :: y124 :: y125 :: y126 :: y127 :: y128 :: y129 :: y130 :: y131 :: y132 :: y133 :: y134 :: y135 :: y136 :: y137 :: y138 :: y139 :: y140 :: y141 :: y142 :: y143 :: y144 :: y145 :: y146 :: y147 :: y148 :: y149 :: y150 :: y151 :: y152 :: y153 :: y154 :: y155 :: y156 :: y157 :: y158 :: y159 :: y160 :: y161 :: y162 :: y163 :: y164 :: y165 :: y166 :: y167 :: y168 :: y169 :: y170 :: y171 :: y172 :: y173 :: y174 :: y175 :: y176 :: y177 :: y178 :: y179 :: y180 :: y181 :: y182 :: y183 :: y184 :: y185 :: y186 :: y187 :: y188 :: y189 :: y190 :: y191 :: y192 :: y193 :: y194 :: y195 :: y196 :: y197 :: y198 :: y199 :: y200 :: []).toArray, defers := Ds.map mkD } w1 := by
  intro cd hcd
  dsimp only [swOf, roundOf, codeOf, Try.f6, cl, cr, ci, Option.getD_some] at hcd
  subst hcd
  have HP1 := Lib.hid hP1
  have HW1 := Lib.hid hW1
  have HB11 := Lib.hid hB11
  have HOK := Lib.hid hOK
  clear hP1 hW1 hB11 hOK
  have hkb : (o.k == 0) = true := by simp [hk0]
  have dK : w1.cell? ⟨g11, 0, none⟩ = some (.int .i64 o.k) := by rw [HB11.out.cell]; rfl
  have HK0 := Lib.hid hk0
  have hom := HOK.out.2
  have hg11 := HB11.out.lt
  have hSD1 : SlB w1 w.heap.size o.A o.m o.c o.ds := HOK.out.1.below HW1.out
  have hzw1 := HW1.out.size
  clear hk0
  go_wp2_with (first
    | ((with_reducible show wpList _ _ _ (Oper.mk (some 76) (Op.load _ _) _ _ _ _ :: _) _ _); refine wpList_load_whole (by rfl) 65 (.tmp 11) rfl g11 rfl #[.int .i64 o.k, .int .i64 o.i, .int .i64 o.n, .slice o.A o.m o.c] aggOp9 rfl _ HB11.out ?_)
    | (go_at_call 22; refine (cmd_c o.k o.i o.n o.A o.m o.c).mono ?_; rintro e w2 ⟨rfl, hb12⟩; have bn12 := Blk.new w2 46 #[.int .i64 0, .int .i64 0, .int .i64 0, .int .i64 0, .slice none 0 0, .int .i64 0, .int .i64 0, .int .i64 0, .int .i64 0, .int .i64 0, .bool false])
    | ((with_reducible show wpList _ _ _ (Oper.mk (some 12) (Op.alloc _) _ _ _ _ :: _) _ _); refine wpList_alloc_agg rfl 46 rfl #[.int .i64 0, .int .i64 0, .int .i64 0, .int .i64 0, .slice none 0 0, .int .i64 0, .int .i64 0, .int .i64 0, .int .i64 0, .int .i64 0, .bool false] zeroCm9 ?_)
    | ((with_reducible show wpList _ _ _ (Oper.mk none (Op.store _ (.tmp 12) _) _ _ _ _ :: _) _ _); refine wpList_store_whole rfl 46 (.tmp 12) (.tmp 77) rfl w2.heap.size rfl [.int .i64 2, .int .i64 0, .int .i64 o.n, .int .i64 0, .slice o.A o.m o.c, .int .i64 0, .int .i64 0, .int .i64 0, .int .i64 0, .int .i64 0, .bool false] rfl aggCmd rfl _ _ bn12 rfl (by simp [Value.oneCell']) ?_; intro w3 b12 q12 s12; have h23 : Below w2.heap.size w2 w3 := (below_alloc _ _).grown q12 (by simp) (fun k hk => by cases hk; exact Nat.le_refl _); have h13 : Below w1.heap.size w1 w3 := hb12.trans (h23.mono hb12.size); obtain ⟨g12, hg12⟩ : ∃ g, g = w2.heap.size := ⟨_, rfl⟩; rw [← hg12] at b12 ⊢; have hg12l := b12.lt; have hg12w : w1.heap.size ≤ g12 := (by have := hb12.size; omega); have HB12 := Lib.hid b12; have HB113 := Lib.hid (HB11.out.below h13 HB11.out.lt); have dA3 : w3.cell? ⟨g11, 3, none⟩ = some (.slice o.A o.m o.c) := (by rw [HB113.out.cell]; rfl); have HSD3 := Lib.hid (hSD1.below (h13.mono hzw1)); have hz13 := h13.size; have H13 := Lib.hid h13; clear b12 q12 s12 bn12 hg12 h23 hb12 h13)
    | (go_at_call 9; refine (copy_c HSD3.out (by omega) (by omega)).mono ?_; rintro e w4 ⟨rfl, ho4, hb34⟩; obtain ⟨gk, hgk⟩ : ∃ g, g = w3.heap.size := ⟨_, rfl⟩; rw [← hgk] at ho4 ⊢; have hz34 := hb34.size; have hgkw : gk < w4.heap.size := (by obtain ⟨g', cur, e1, _, hb, _⟩ := ho4.2.2.2 (by omega); cases e1; exact hb.lt); have hg12k : g12 < gk ∧ w3.heap.size ≤ gk := (by omega); have b124 := HB12.out.below hb34 HB12.out.lt; have d124 : w4.cell? ⟨g12, 4, none⟩ = some (.slice o.A o.m o.c) := (by rw [b124.cell]; rfl); have f124 := b124.frozen 4; obtain ⟨w5, hw5⟩ : ∃ x, x = w4.setCell ⟨g12, 4, none⟩ (.slice (some ⟨gk, 0, none⟩) o.m (o.m + 2)) := ⟨_, rfl⟩; have b125 : Blk w5 g12 46 #[.int .i64 2, .int .i64 0, .int .i64 o.n, .int .i64 0, .slice (some ⟨gk, 0, none⟩) o.m (o.m + 2), .int .i64 0, .int .i64 0, .int .i64 0, .int .i64 0, .int .i64 0, .bool false] := (by rw [hw5]; simpa using b124.set_ 4 (.slice (some ⟨gk, 0, none⟩) o.m (o.m + 2))); have h15 : Below w1.heap.size w1 w5 := (by rw [hw5]; exact (H13.out.trans (hb34.mono hz13)).setCell (p := ⟨g12, 4, none⟩) hg12w _); have HO5 := Lib.hid (show OwB w5 gk (some ⟨gk, 0, none⟩) (o.m + 2) (o.m + 2) (o.ds ++ [0xa5, 0x5a]) by rw [hw5]; exact Row.farC ho4 (by omega) 4 _); have HT5 := Lib.hid (show OwB w5 gk (some ⟨gk, 0, none⟩) o.m (o.m + 2) o.ds from (List.take_left' HOK.out.1.len : (o.ds ++ [0xa5, 0x5a]).take o.m = o.ds) ▸ OwB.trim HO5.out (k := o.m) (by omega)); have hz45 : w5.heap.size = w4.heap.size := (by rw [hw5]; simp); have b115 := HB11.out.below h15 HB11.out.lt; have d151 : (w4.setCell ⟨g12, 4, none⟩ (.slice (some ⟨gk, 0, none⟩) o.m (o.m + 2))).cell? ⟨g11, 1, none⟩ = some (.int .i64 o.i) := (by rw [← hw5, b115.cell]; rfl); have d152 : (w4.setCell ⟨g12, 4, none⟩ (.slice (some ⟨gk, 0, none⟩) o.m (o.m + 2))).cell? ⟨g11, 2, none⟩ = some (.int .i64 o.n) := (by rw [← hw5, b115.cell]; rfl); have HB115 := Lib.hid b115; have HB125 := Lib.hid b125; have H15 := Lib.hid h15; have hz5g : gk < w5.heap.size := (by omega); have hz15 := h15.size; have HP5 := Lib.hid (HP1.out.below h15); have HW5 := Lib.hid (HW1.out.trans (h15.mono hzw1)); have HV5 := Lib.hid hw5; have HSD5 := Lib.hid (hSD1.below (h15.mono hzw1)); clear hgk ho4 hb34 b124 b125 b115 h15 hw5 hz45)
    | ((with_reducible show wpList _ _ _ (Oper.mk (some 87) (Op.load _ _) _ _ _ _ :: _) _ _); rw [← HV5.out]; refine wpList_load_whole (by rfl) 46 (.tmp 12) rfl g12 rfl #[.int .i64 2, .int .i64 0, .int .i64 o.n, .int .i64 0, .slice (some ⟨gk, 0, none⟩) o.m (o.m + 2), .int .i64 0, .int .i64 0, .int .i64 0, .int .i64 0, .int .i64 0, .bool false] aggCmd rfl _ HB125.out ?_)
    | ((with_reducible show wpList _ _ _ (Oper.mk (some 88) (Op.build _ _) _ _ _ _ :: _) _ _); refine wpList_build (by rfl) 48 _ rfl #[(0, .int .i64 o.i), (1, .int .i64 o.n), (2, .agg #[.int .i64 2, .int .i64 0, .int .i64 o.n, .int .i64 0, .slice (some ⟨gk, 0, none⟩) o.m (o.m + 2), .int .i64 0, .int .i64 0, .int .i64 0, .int .i64 0, .int .i64 0, .bool false])] (by simp only [List.map_toArray, List.map_cons, List.map_nil]; rfl) _ (buildWB _ _ _ _ _ _) ?_)
    | (go_at_call 16; refine (putW HP5.out.q (by rw [List.length_map]; omega) o.i o.n 2 o.n HT5.out.sl (Nat.le_refl _) (by omega)).mono ?_; rintro e w6 ⟨rfl, A6, c6, hq6, ho6, hb56, ht56⟩))
  have hz56 := hb56.size
  obtain ⟨p, hp⟩ : ∃ p : Wt, p = ⟨o.i, o.n, 2, o.n, A6, o.m, c6, o.A, o.c, o.ds⟩ := ⟨_, rfl⟩
  have hw5s : w.heap.size ≤ w5.heap.size := HW5.out.size
  have HPP := Lib.hid (show ∀ g, wrote p.A p.c = some g → g ≠ gk from fun g e => by
    rw [hp] at e
    rcases Row.wrote_lt ho6 with h1 | ⟨g', _, h1, hgb, _, _⟩
    · rw [show wrote A6 c6 = none from h1] at e; cases e
    · rw [show wrote A6 c6 = some g' from h1] at e; cases e; omega)
  have HP6 := Lib.hid (HP5.out.qop (ps' := ps ++ [p]) (by rw [List.map_append, hp]; exact hq6) hb56 ht56 (fun x hx => by
    rcases List.mem_append.1 hx with h | h
    · exact .inl h
    · rw [List.mem_singleton.1 h, hp]; exact .inr ⟨Row.base_le ho6 hw5s, hom⟩))
  have HW6 := Lib.hid (HW5.out.trans hb56)
  have HO6 := Lib.hid (show OwB w6 gk (some ⟨gk, 0, none⟩) (o.m + 2) (o.m + 2) (o.ds ++ [0xa5, 0x5a]) from Row.ty HO5.out ht56)
  have HB116 := Lib.hid (ht56.2 _ _ _ HB115.out (by decide) (by decide))
  have HB126 := Lib.hid (ht56.2 _ _ _ HB125.out (by decide) (by decide))
  have HB96 := Lib.hid HP6.out.b9
  have HPE := Lib.hid hp
  clear hb56 HB115 HB125 HO5 hq6 ho6 ht56 hp
  refine (wpIn_wide (n := 4)).1 ?_
  refine wpIn_region_rel free_wide rfl 8 (fun W W' => Below W.heap.size W W') (fun W => Below w6.heap.size w6 W)
    [Det (.pointer (some ⟨gm, 0, none⟩)), Det (.pointer (some ⟨g11, 1, none⟩)), Det (.int .i64 o.i), Det (.pointer (some ⟨g11, 2, none⟩)), Det (.int .i64 o.n), Det (.agg #[.int .i64 o.k, .int .i64 o.i, .int .i64 o.n, .slice o.A o.m o.c]), Det (.agg #[.int .i64 2, .int .i64 0, .int .i64 o.n, .int .i64 0, .slice o.A o.m o.c, .int .i64 0, .int .i64 0, .int .i64 0, .int .i64 0, .int .i64 0, .bool false]), Det (.agg (wrb o.i o.n 2 o.n o.A o.m o.c).toArray), Any, Any]
    [[], [], [(1, some 91)], [], [(3, some 93)], [], [(5, some 95)], [(2, some 92), (4, some 94), (6, some 96)], [(0, some 90), (7, some 97)], [(8, some 98)]]
    [[], [], [1], [], [3], [], [5], [1, 2, 3, 4, 5, 6], [0, 1, 2, 3, 4, 5, 6, 7], [0, 1, 2, 3, 4, 5, 6, 7, 8]]
    [(0, some 90), (1, some 91), (2, some 92), (3, some 93), (4, some 94), (5, some 95), (6, some 96), (7, some 97), (8, some 98), (9, some 14)] (by kernel_rfl) (by kernel_rfl) (by kernel_rfl) (fun W W' h1 h2 => h1.trans (h2.mono h1.size)) ((Below.refl _ _).drew) ?_ ?_ ?_
  · exact (AllMono.cons Det.later (AllMono.cons Det.later (AllMono.cons Det.later (AllMono.cons Det.later (AllMono.cons Det.later (AllMono.cons Det.later (AllMono.cons Det.later (AllMono.cons Det.later (AllMono.cons Any.later (AllMono.cons Any.later AllMono.nil))))))))))
  · refine AllOb.cons ?_ (AllOb.cons ?_ (AllOb.cons ?_ (AllOb.cons ?_ (AllOb.cons ?_ (AllOb.cons ?_ (AllOb.cons ?_ (AllOb.cons ?_ (AllOb.nil))))))))
    · intro uF W hC' hU aF hF
      have hC : Below w6.heap.size w6 W := hC'
      clear hC'
      simp only [puts] at hF
      subst hF
      have d_g9 : W.cell? ⟨g9, 0, none⟩ = some (.pointer (some ⟨gm, 0, none⟩)) := by rw [(HB96.out.below hC HB96.out.lt).cell]; rfl
      go_wp2_with (fail)
      exact ⟨rfl, rfl, (Below.refl _ _), rfl⟩
    · intro uF W hC' hU aF hF
      have hC : Below w6.heap.size w6 W := hC'
      clear hC'
      simp only [puts] at hF
      subst hF
      go_wp2_with (fail)
      exact ⟨rfl, rfl, (Below.refl _ _), rfl⟩
    · intro uF W hC' hU aF hF
      have hC : Below w6.heap.size w6 W := hC'
      clear hC'
      have h91 : (Det (.pointer (some ⟨g11, 1, none⟩))) (uF 1) W := hU.1
      clear hU
      simp only [puts, Act.put, List.setIfInBounds_toArray, List.set_cons_zero, List.set_cons_succ] at hF
      generalize uF 1 = x91 at h91 hF
      obtain rfl : x91 = (.pointer (some ⟨g11, 1, none⟩)) := h91
      subst hF
      have d_1 : W.cell? ⟨g11, 1, none⟩ = some (.int .i64 o.i) := by rw [(HB116.out.below hC HB116.out.lt).cell]; rfl
      go_wp2_with (fail)
      exact ⟨rfl, rfl, (Below.refl _ _), rfl⟩
    · intro uF W hC' hU aF hF
      have hC : Below w6.heap.size w6 W := hC'
      clear hC'
      simp only [puts] at hF
      subst hF
      go_wp2_with (fail)
      exact ⟨rfl, rfl, (Below.refl _ _), rfl⟩
    · intro uF W hC' hU aF hF
      have hC : Below w6.heap.size w6 W := hC'
      clear hC'
      have h93 : (Det (.pointer (some ⟨g11, 2, none⟩))) (uF 3) W := hU.1
      clear hU
      simp only [puts, Act.put, List.setIfInBounds_toArray, List.set_cons_zero, List.set_cons_succ] at hF
      generalize uF 3 = x93 at h93 hF
      obtain rfl : x93 = (.pointer (some ⟨g11, 2, none⟩)) := h93
      subst hF
      have d_2 : W.cell? ⟨g11, 2, none⟩ = some (.int .i64 o.n) := by rw [(HB116.out.below hC HB116.out.lt).cell]; rfl
      go_wp2_with (fail)
      exact ⟨rfl, rfl, (Below.refl _ _), rfl⟩
    · intro uF W hC' hU aF hF
      have hC : Below w6.heap.size w6 W := hC'
      clear hC'
      simp only [puts] at hF
      subst hF
      go_wp2_with (((with_reducible show wpList _ _ _ (Oper.mk _ (Op.load _ _) _ _ _ _ :: _) _ _); refine wpList_load_whole (by rfl) 65 (.tmp 11) rfl g11 rfl #[.int .i64 o.k, .int .i64 o.i, .int .i64 o.n, .slice o.A o.m o.c] aggOp9 rfl _ (HB116.out.below hC HB116.out.lt) ?_))
      exact ⟨rfl, rfl, (Below.refl _ _), rfl⟩
    · intro uF W hC' hU aF hF
      have hC : Below w6.heap.size w6 W := hC'
      clear hC'
      have h95 : (Det (.agg #[.int .i64 o.k, .int .i64 o.i, .int .i64 o.n, .slice o.A o.m o.c])) (uF 5) W := hU.1
      clear hU
      simp only [puts, Act.put, List.setIfInBounds_toArray, List.set_cons_zero, List.set_cons_succ] at hF
      generalize uF 5 = x95 at h95 hF
      obtain rfl : x95 = (.agg #[.int .i64 o.k, .int .i64 o.i, .int .i64 o.n, .slice o.A o.m o.c]) := h95
      subst hF
      go_wp2_with ((go_at_call 22; refine (cmd_c o.k o.i o.n o.A o.m o.c).mono ?_; rintro e W1 ⟨rfl, hb⟩))
      exact ⟨rfl, rfl, hb, rfl⟩
    · intro uF W hC' hU aF hF
      have hC : Below w6.heap.size w6 W := hC'
      clear hC'
      have h92 : (Det (.int .i64 o.i)) (uF 2) W := hU.1
      have h94 : (Det (.int .i64 o.n)) (uF 4) W := hU.2.1
      have h96 : (Det (.agg #[.int .i64 2, .int .i64 0, .int .i64 o.n, .int .i64 0, .slice o.A o.m o.c, .int .i64 0, .int .i64 0, .int .i64 0, .int .i64 0, .int .i64 0, .bool false])) (uF 6) W := hU.2.2.1
      clear hU
      simp only [puts, Act.put, List.setIfInBounds_toArray, List.set_cons_zero, List.set_cons_succ] at hF
      generalize uF 2 = x92 at h92 hF
      generalize uF 4 = x94 at h94 hF
      generalize uF 6 = x96 at h96 hF
      obtain rfl : x92 = (.int .i64 o.i) := h92
      obtain rfl : x94 = (.int .i64 o.n) := h94
      obtain rfl : x96 = (.agg #[.int .i64 2, .int .i64 0, .int .i64 o.n, .int .i64 0, .slice o.A o.m o.c, .int .i64 0, .int .i64 0, .int .i64 0, .int .i64 0, .int .i64 0, .bool false]) := h96
      subst hF
      go_wp2_with (((with_reducible show wpList _ _ _ (Oper.mk _ (Op.build _ _) _ _ _ _ :: _) _ _); refine wpList_build (by rfl) 68 _ rfl #[(0, .int .i64 o.i), (1, .int .i64 o.n), (2, .agg #[.int .i64 2, .int .i64 0, .int .i64 o.n, .int .i64 0, .slice o.A o.m o.c, .int .i64 0, .int .i64 0, .int .i64 0, .int .i64 0, .int .i64 0, .bool false])] (by simp only [List.map_toArray, List.map_cons, List.map_nil]; rfl) _ (buildRB _ _ _ _ _ _) ?_))
      exact ⟨rfl, rfl, (Below.refl _ _), rfl⟩
  intro uF w7 hC' hU aF hF
  have hCw7 : Below w6.heap.size w6 w7 := hC'
  clear hC'
  have h90 : (Det (.pointer (some ⟨gm, 0, none⟩))) (uF 0) w7 := hU.1
  have h97 : (Det (.agg (wrb o.i o.n 2 o.n o.A o.m o.c).toArray)) (uF 7) w7 := hU.2.2.2.2.2.2.2.1
  clear hU
  simp only [List.take_succ_cons, List.take_zero, puts, Act.put, List.setIfInBounds_toArray, List.set_cons_zero, List.set_cons_succ] at hF
  generalize uF 0 = x90 at h90 hF
  generalize uF 1 = x91 at hF
  generalize uF 2 = x92 at hF
  generalize uF 3 = x93 at hF
  generalize uF 4 = x94 at hF
  generalize uF 5 = x95 at hF
  generalize uF 6 = x96 at hF
  generalize uF 7 = x97 at h97 hF
  obtain rfl : x90 = (.pointer (some ⟨gm, 0, none⟩)) := h90
  obtain rfl : x97 = (.agg (wrb o.i o.n 2 o.n o.A o.m o.c).toArray) := h97
  subst hF
  simp only [List.drop_succ_cons, List.drop_zero]
  have P7 := HP6.out.below hCw7
  have HW7 := HW6.out.trans (hCw7.mono HW6.out.size)
  have HO7 := Lib.hid (OwB.below HO6.out hCw7)
  have HB117 := Lib.hid (HB116.out.below hCw7 HB116.out.lt)
  have HB127 := Lib.hid (HB126.out.below hCw7 HB126.out.lt)
  have HP7 := Lib.hid P7
  have HWW7 := Lib.hid HW7
  clear P7 HW7 hCw7
  gi_wp2
  refine ⟨trivial, callsIn_wide.2 ((rput_yes HP7.out.r (by rw [List.length_map]; omega) (r := (wrb o.i o.n 2 o.n o.A o.m o.c)) (wrb_ok _ _ _ _ _ _ _)).mono ?_)⟩
  rintro e w8 ⟨rfl, hr8, hb78, ht78⟩
  have HP8 := Lib.hid (HP7.out.rop (rs' := ps ++ [p]) (by rw [List.map_append, HPE.out]; exact hr8) hb78 ht78 (fun x hx => by
    rcases List.mem_append.1 hx with h | h
    · exact .inl h
    · rw [List.mem_singleton.1 h, HPE.out]; exact .inr (HOK.out.1.below (HWW7.out.trans hb78))))
  have HW8 := Lib.hid (HWW7.out.trans hb78)
  have HO8 := Lib.hid (show OwB w8 gk (some ⟨gk, 0, none⟩) (o.m + 2) (o.m + 2) (o.ds ++ [0xa5, 0x5a]) from Row.tyR HO7.out ht78 (by decide) (by decide))
  have b118 := ht78.2 _ _ _ HB117.out (by decide) (by decide)
  have b128 := ht78.2 _ _ _ HB127.out (by decide) (by decide)
  clear hr8 ht78
  have dC8 : w8.cell? ⟨g12, 4, none⟩ = some (.slice (some ⟨gk, 0, none⟩) o.m (o.m + 2)) := by rw [b128.cell]; rfl
  have dA8 : w8.cell? ⟨g11, 3, none⟩ = some (.slice o.A o.m o.c) := by rw [b118.cell]; rfl
  have HSD8 := Lib.hid (HOK.out.1.below HW8.out)
  have htk : (o.ds ++ [0xa5, 0x5a]).take o.m = o.ds := List.take_left' HOK.out.1.len
  have HT8 := Lib.hid (show OwB w8 gk (some ⟨gk, 0, none⟩) o.m (o.m + 2) o.ds from htk ▸ OwB.trim HO8.out (k := o.m) (by omega))
  obtain ⟨g', cur, e1, _, hkb8, _⟩ := HO8.out.2.2.2 (by omega)
  cases e1
  have HKB8 := Lib.hid hkb8
  clear hb78 b118 b128 htk hkb8
  gi_wp2
  go_wp2_with (first
    | (go_at_call 21; refine (is_err 8 8 rfl true rfl _).mono ?_; rintro e w' ⟨rfl, rfl⟩)
    | (go_at_call 24; refine (kept_c HO8.out.sl HSD8.out (by omega)).mono ?_; rintro e w' ⟨rfl, rfl⟩)
    | (go_at_call 11; refine (over_c HT8.out (by omega)).mono ?_; rintro e w9 ⟨rfl, hg89⟩))
  have hwk : wrote (some ⟨gk, 0, none⟩) (o.m + 2) = some gk := by rw [wrote, if_neg (by omega)]; rfl
  rw [hwk] at hg89
  have HP9 := Lib.hid (HP8.out.over HKB8.out hg89 (by have := HW1.out.size; omega) (fun x hx e => by
      have hfar : False := by
          rcases List.mem_append.1 hx with hx | hx
          · rcases Row.wrote_lt (HP1.out.dq x hx).1 with h1 | ⟨g2, _, h1, _, hlt, _⟩
            · rw [h1] at e; cases e
            · rw [h1] at e; cases e; omega
          · rw [List.mem_singleton.1 hx] at e; exact HPP.out _ e rfl
      exact hfar))
  have HW9 := Lib.hid (HW8.out.grown hg89 HW8.out.size (fun k hk => by cases hk; have := HW1.out.size; omega))
  exact ⟨ps ++ [p], _, _, _, _, _, _, _, _, _, _, _, _, _, _, _, _, _, _, _, _, _, _, _, _, _, _, _, _, _, _, _, _, _, _, _, _, _, _, _, _, _, _, _, _, _, _, _, _, _, _, _, _, _, _, _, _, _, _, _, _, _, _, _, _, _, _, _, _, _, _, _, _, _, _, _, _, _, _, _, _, _, _, _, _, _, _, _, _, _, _, _, _, _, _, _, _, _, _, _, _, _, _, _, _, _, _, _, _, _, _, _, _, _, _, _, _, _, _, _, _, _, _, _, _, _, _, _, _, _, _, _, _, _, _, _, _, _, _, _, _, _, _, _, _, _, _, _, _, _, _, _, _, _, _, _, _, _, _, _, _, _, _, _, _, _, _, _, _, _, _, _, _, _, _, _, _, _, _, _, _, _, _, _, _, _, _, _, _, _, _, _, _, _, HP9.out, HW9.out, rfl⟩

set_option maxHeartbeats 8000000 in
theorem sw_take0 {w w1 : World} {g5 g6 gq g9 gm n mm gb off N c i g11 : Nat} {Ds : List Nat} {o : Opw} (y0 y1 y2 y3 y4 y10 y12 y13 y14 y15 y16 y17 y18 y19 y20 y21 y22 y23 y24 y25 y26 y27 y28 y29 y30 y31 y32 y33 y34 y35 y36 y37 y38 y39 y40 y41 y42 y43 y44 y45 y46 y47 y48 y49 y50 y51 y52 y53 y54 y55 y56 y60 y61 y62 y63 y64 y65 y66 y67 y68 y69 y70 y71 y72 y73 y74 y75 y76 y77 y78 y79 y80 y81 y82 y83 y84 y85 y86 y87 y88 y89 y90 y91 y92 y93 y94 y95 y96 y97 y98 y99 y100 y101 y102 y103 y104 y105 y106 y107 y108 y109 y110 y111 y112 y113 y114 y115 y116 y117 y118 y119 y120 y121 y122 y123 y124 y125 y126 y127 y128 y129 y130 y131 y132 y133 y134 y135 y136 y137 y138 y139 y140 y141 y142 y143 y144 y145 y146 y147 y148 y149 y150 y151 y152 y153 y154 y155 y156 y157 y158 y159 y160 y161 y162 y163 y164 y165 y166 y167 y168 y169 y170 y171 y172 y173 y174 y175 y176 y177 y178 y179 y180 y181 y182 y183 y184 y185 y186 y187 y188 y189 y190 y191 y192 y193 y194 y195 y196 y197 y198 y199 y200 : Value) (hP1 : Pl w.heap.size g5 g6 gq g9 gm n mm [] [] Ds w1) (hW1 : Below w.heap.size w w1) (hB11 : Blk w1 g11 65 #[.int .i64 o.k, .int .i64 o.i, .int .i64 o.n, .slice o.A o.m o.c]) (hOK : o.ok w) (hpsn : ([] : List Wt).length ≤ n) (hk0 : ¬ o.k = 0) (hk1 : o.k = 1) :
    ∀ cd, swOf (codeOf Try.f6) = cd → cd.wp Try.prog (Exit.then (Mid1 w g5 g6 gq g9 gm n mm (some ⟨gb, off, none⟩) N c i Ds) (fun _ _ _ => False)) { tmps := (y0 :: y1 :: y2 :: y3 :: y4 :: (.pointer (some ⟨g5, 0, none⟩)) :: (.pointer (some ⟨g6, 0, none⟩)) :: (.pointer (some ⟨gq, 0, none⟩)) :: (.nilIface) :: (.pointer (some ⟨g9, 0, none⟩)) :: y10 :: (.pointer (some ⟨g11, 0, none⟩)) :: y12 :: y13 :: y14 :: y15 :: y16 :: y17 :: y18 :: y19 :: y20 :: y21 :: y22 :: y23 :: y24 :: y25 :: y26 :: y27 :: y28 :: y29 :: y30 :: y31 :: y32 :: y33 :: y34 :: y35 :: y36 :: y37 :: y38 :: y39 :: y40 :: y41 :: y42 :: y43 :: y44 :: y45 :: y46 :: y47 :: y48 :: y49 :: y50 :: y51 :: y52 :: y53 :: y54 :: y55 :: y56 :: (.slice (some ⟨gb, off, none⟩) N c) :: (.int .i64 (N : Int)) :: (.int .i64 (i : Int)) :: y60 :: y61 :: y62 :: y63 :: y64 :: y65 :: y66 :: y67 :: y68 :: y69 :: y70 :: y71 :: y72 :: y73 :: y74 :: y75 :: y76 :: y77 :: y78 :: y79 :: y80 :: y81 :: y82 :: y83 :: y84 :: y85 :: y86 :: y87 :: y88 :: y89 :: y90 :: y91 :: y92 :: y93 :: y94 :: y95 :: y96 :: y97 :: y98 :: y99 :: y100 :: y101 :: y102 :: y103 :: y104 :: y105 :: y106 :: y107 :: y108 :: y109 :: y110 :: y111 :: y112 :: y113 :: y114 :: y115 :: y116 :: y117 :: y118 :: y119 :: y120 :: y121 :: y122 :: y123 :: y124 :: y125 :: y126 :: y127 :: y128 :: y129 :: y130 :: y131 :: y132 :: y133 :: y134 :: y135 :: y136 :: y137 :: y138 :: y139 :: y140 :: y141 :: y142 :: y143 :: y144 :: y145 :: y146 :: y147 :: y148 :: y149 :: y150 :: y151 :: y152 :: y153 :: y154 :: y155 :: y156 :: y157 :: y158 :: y159 :: y160 :: y161 :: y162 :: y163 :: y164 :: y165 :: y166 :: y167 :: y168 :: y169 :: y170 :: y171 :: y172 :: y173 :: y174 :: y175 :: y176 :: y177 :: y178 :: y179 :: y180 :: y181 :: y182 :: y183 :: y184 :: y185 :: y186 :: y187 :: y188 :: y189 :: y190 :: y191 :: y192 :: y193 :: y194 :: y195 :: y196 :: y197 :: y198 :: y199 :: y200 :: []).toArray, defers := Ds.map mkD } w1 := by
  intro cd hcd
  dsimp only [swOf, roundOf, codeOf, Try.f6, cl, cr, ci, Option.getD_some] at hcd
  subst hcd
  have HP1 := Lib.hid hP1
  have HW1 := Lib.hid hW1
  have HB11 := Lib.hid hB11
  have HOK := Lib.hid hOK
  clear hP1 hW1 hB11 hOK
  have hkb : (o.k == 0) = false := by simp [hk0]
  have dK : w1.cell? ⟨g11, 0, none⟩ = some (.int .i64 o.k) := by rw [HB11.out.cell]; rfl
  have hzw1 := HW1.out.size
  have HK0 := Lib.hid hk0
  have HK1' := Lib.hid hk1
  have hkb1 : (o.k == 1) = true := by simp [hk1]
  clear hk0 hk1
  have HQ0 := Lib.hid (show Qs w1 w.heap.size gq n [] from HP1.out.q)
  go_wp2_with (first
    | (go_at_call 17; refine (take_no (.pointer (some ⟨gq, 0, none⟩)) (by simpa using len_c (HQ0.out.below (below_alloc _ _)))).mono ?_; rintro e w2 ⟨rfl, hb12⟩; have bn15 := Blk.new w2 48 #[.int .i64 0, .int .i64 0, .int .i64 0, .int .i64 0, .int .i64 0, .int .i64 0, .slice none 0 0, .int .i64 0, .int .i64 0, .int .i64 0, .int .i64 0, .int .i64 0, .bool false])
    | ((with_reducible show wpList _ _ _ (Oper.mk (some 15) (Op.alloc _) _ _ _ _ :: _) _ _); refine wpList_alloc_agg rfl 48 rfl #[.int .i64 0, .int .i64 0, .int .i64 0, .int .i64 0, .int .i64 0, .int .i64 0, .slice none 0 0, .int .i64 0, .int .i64 0, .int .i64 0, .int .i64 0, .int .i64 0, .bool false] zeroW ?_)
    | ((with_reducible show wpList _ _ _ (Oper.mk none (Op.store _ (.tmp 15) _) _ _ _ _ :: _) _ _); refine wpList_store_whole rfl 48 (.tmp 15) (.tmp 128) rfl w2.heap.size rfl [.int .i64 0, .int .i64 0, .int .i64 0, .int .i64 0, .int .i64 0, .int .i64 0, .slice none 0 0, .int .i64 0, .int .i64 0, .int .i64 0, .int .i64 0, .int .i64 0, .bool false] rfl aggW rfl _ _ bn15 rfl (by simp [Value.oneCell']) ?_; intro w3 b15 q15 s15; have h23 : Below w2.heap.size w2 w3 := (below_alloc _ _).grown q15 (by simp) (fun k hk => by cases hk; exact Nat.le_refl _); have h13 : Below w1.heap.size w1 w3 := hb12.trans (h23.mono hb12.size); have hz13 := h13.size; have HP3 := Lib.hid (HP1.out.below h13); have d93 : w3.cell? ⟨g9, 0, none⟩ = some (.pointer (some ⟨gm, 0, none⟩)) := (by rw [HP3.out.b9.cell]; rfl); have HB15 := Lib.hid b15; have H13 := Lib.hid h13; clear b15 q15 s15 h23 h13 bn15 hb12)
    | (go_at_call 25; refine (rtake_no HP3.out.r).mono ?_; rintro e w4 ⟨rfl, hb34⟩; have bn17 := Blk.new w4 68 #[.int .i64 0, .int .i64 0, .int .i64 0, .int .i64 0, .int .i64 0, .int .i64 0, .slice none 0 0, .int .i64 0, .int .i64 0, .int .i64 0, .int .i64 0, .int .i64 0, .bool false])
    | ((with_reducible show wpList _ _ _ (Oper.mk (some 17) (Op.alloc _) _ _ _ _ :: _) _ _); refine wpList_alloc_agg rfl 68 rfl #[.int .i64 0, .int .i64 0, .int .i64 0, .int .i64 0, .int .i64 0, .int .i64 0, .slice none 0 0, .int .i64 0, .int .i64 0, .int .i64 0, .int .i64 0, .int .i64 0, .bool false] zeroR ?_)
    | ((with_reducible show wpList _ _ _ (Oper.mk none (Op.store _ (.tmp 17) _) _ _ _ _ :: _) _ _); refine wpList_store_whole rfl 68 (.tmp 17) (.tmp 133) rfl w4.heap.size rfl [.int .i64 0, .int .i64 0, .int .i64 0, .int .i64 0, .int .i64 0, .int .i64 0, .slice none 0 0, .int .i64 0, .int .i64 0, .int .i64 0, .int .i64 0, .int .i64 0, .bool false] rfl aggR rfl _ _ bn17 rfl (by simp [Value.oneCell']) ?_; intro w5 b17 q17 s17; have h45 : Below w4.heap.size w4 w5 := (below_alloc _ _).grown q17 (by simp) (fun k hk => by cases hk; exact Nat.le_refl _); have h35 : Below w3.heap.size w3 w5 := hb34.trans (h45.mono hb34.size); have b155 := HB15.out.below h35 HB15.out.lt; have H15 := Lib.hid (H13.out.trans (h35.mono hz13)); have hz15 := H15.out.size; have HB155 := Lib.hid b155; have HB17 := Lib.hid b17; clear b17 q17 s17 h45 h35 b155 bn17 hb34)
    | ((with_reducible show wpList _ _ _ (Oper.mk (some 139) (Op.load _ _) _ _ _ _ :: _) _ _); refine wpList_load_whole (by rfl) 48 (.tmp 15) rfl w2.heap.size rfl #[.int .i64 0, .int .i64 0, .int .i64 0, .int .i64 0, .int .i64 0, .int .i64 0, .slice none 0 0, .int .i64 0, .int .i64 0, .int .i64 0, .int .i64 0, .int .i64 0, .bool false] aggW rfl _ HB155.out ?_)
    | ((with_reducible show wpList _ _ _ (Oper.mk (some 140) (Op.load _ _) _ _ _ _ :: _) _ _); refine wpList_load_whole (by rfl) 68 (.tmp 17) rfl w4.heap.size rfl #[.int .i64 0, .int .i64 0, .int .i64 0, .int .i64 0, .int .i64 0, .int .i64 0, .slice none 0 0, .int .i64 0, .int .i64 0, .int .i64 0, .int .i64 0, .int .i64 0, .bool false] aggR rfl _ HB17.out ?_)
    | (go_at_call 26; refine (sameW 0 0 0 0 (SlB.nil _ 0 _) (SlB.nil _ 0 _) (Nat.zero_le _) (Nat.zero_le _)).mono ?_; rintro e w6 ⟨rfl, hb56⟩))
  have h16 := H15.out.trans (hb56.mono hz15)
  exact ⟨[], _, _, _, _, _, _, _, _, _, _, _, _, _, _, _, _, _, _, _, _, _, _, _, _, _, _, _, _, _, _, _, _, _, _, _, _, _, _, _, _, _, _, _, _, _, _, _, _, _, _, _, _, _, _, _, _, _, _, _, _, _, _, _, _, _, _, _, _, _, _, _, _, _, _, _, _, _, _, _, _, _, _, _, _, _, _, _, _, _, _, _, _, _, _, _, _, _, _, _, _, _, _, _, _, _, _, _, _, _, _, _, _, _, _, _, _, _, _, _, _, _, _, _, _, _, _, _, _, _, _, _, _, _, _, _, _, _, _, _, _, _, _, _, _, _, _, _, _, _, _, _, _, _, _, _, _, _, _, _, _, _, _, _, _, _, _, _, _, _, _, _, _, _, _, _, _, _, _, _, _, _, _, _, _, _, _, _, _, _, _, _, _, _, HP1.out.below h16, HW1.out.trans (h16.mono hzw1), rfl⟩

set_option maxHeartbeats 8000000 in
theorem sw_take1 {w w1 : World} {g5 g6 gq g9 gm n mm gb off N c i g11 : Nat} {p : Wt} {rest : List Wt} {Ds : List Nat} {o : Opw} (y0 y1 y2 y3 y4 y10 y12 y13 y14 y15 y16 y17 y18 y19 y20 y21 y22 y23 y24 y25 y26 y27 y28 y29 y30 y31 y32 y33 y34 y35 y36 y37 y38 y39 y40 y41 y42 y43 y44 y45 y46 y47 y48 y49 y50 y51 y52 y53 y54 y55 y56 y60 y61 y62 y63 y64 y65 y66 y67 y68 y69 y70 y71 y72 y73 y74 y75 y76 y77 y78 y79 y80 y81 y82 y83 y84 y85 y86 y87 y88 y89 y90 y91 y92 y93 y94 y95 y96 y97 y98 y99 y100 y101 y102 y103 y104 y105 y106 y107 y108 y109 y110 y111 y112 y113 y114 y115 y116 y117 y118 y119 y120 y121 y122 y123 y124 y125 y126 y127 y128 y129 y130 y131 y132 y133 y134 y135 y136 y137 y138 y139 y140 y141 y142 y143 y144 y145 y146 y147 y148 y149 y150 y151 y152 y153 y154 y155 y156 y157 y158 y159 y160 y161 y162 y163 y164 y165 y166 y167 y168 y169 y170 y171 y172 y173 y174 y175 y176 y177 y178 y179 y180 y181 y182 y183 y184 y185 y186 y187 y188 y189 y190 y191 y192 y193 y194 y195 y196 y197 y198 y199 y200 : Value) (hP1 : Pl w.heap.size g5 g6 gq g9 gm n mm (p :: rest) (p :: rest) Ds w1) (hW1 : Below w.heap.size w w1) (hB11 : Blk w1 g11 65 #[.int .i64 o.k, .int .i64 o.i, .int .i64 o.n, .slice o.A o.m o.c]) (hOK : o.ok w) (hpsn : (p :: rest).length ≤ n) (hk0 : ¬ o.k = 0) (hk1 : o.k = 1) :
    ∀ cd, swOf (codeOf Try.f6) = cd → cd.wp Try.prog (Exit.then (Mid1 w g5 g6 gq g9 gm n mm (some ⟨gb, off, none⟩) N c i Ds) (fun _ _ _ => False)) { tmps := (y0 :: y1 :: y2 :: y3 :: y4 :: (.pointer (some ⟨g5, 0, none⟩)) :: (.pointer (some ⟨g6, 0, none⟩)) :: (.pointer (some ⟨gq, 0, none⟩)) :: (.nilIface) :: (.pointer (some ⟨g9, 0, none⟩)) :: y10 :: (.pointer (some ⟨g11, 0, none⟩)) :: y12 :: y13 :: y14 :: y15 :: y16 :: y17 :: y18 :: y19 :: y20 :: y21 :: y22 :: y23 :: y24 :: y25 :: y26 :: y27 :: y28 :: y29 :: y30 :: y31 :: y32 :: y33 :: y34 :: y35 :: y36 :: y37 :: y38 :: y39 :: y40 :: y41 :: y42 :: y43 :: y44 :: y45 :: y46 :: y47 :: y48 :: y49 :: y50 :: y51 :: y52 :: y53 :: y54 :: y55 :: y56 :: (.slice (some ⟨gb, off, none⟩) N c) :: (.int .i64 (N : Int)) :: (.int .i64 (i : Int)) :: y60 :: y61 :: y62 :: y63 :: y64 :: y65 :: y66 :: y67 :: y68 :: y69 :: y70 :: y71 :: y72 :: y73 :: y74 :: y75 :: y76 :: y77 :: y78 :: y79 :: y80 :: y81 :: y82 :: y83 :: y84 :: y85 :: y86 :: y87 :: y88 :: y89 :: y90 :: y91 :: y92 :: y93 :: y94 :: y95 :: y96 :: y97 :: y98 :: y99 :: y100 :: y101 :: y102 :: y103 :: y104 :: y105 :: y106 :: y107 :: y108 :: y109 :: y110 :: y111 :: y112 :: y113 :: y114 :: y115 :: y116 :: y117 :: y118 :: y119 :: y120 :: y121 :: y122 :: y123 :: y124 :: y125 :: y126 :: y127 :: y128 :: y129 :: y130 :: y131 :: y132 :: y133 :: y134 :: y135 :: y136 :: y137 :: y138 :: y139 :: y140 :: y141 :: y142 :: y143 :: y144 :: y145 :: y146 :: y147 :: y148 :: y149 :: y150 :: y151 :: y152 :: y153 :: y154 :: y155 :: y156 :: y157 :: y158 :: y159 :: y160 :: y161 :: y162 :: y163 :: y164 :: y165 :: y166 :: y167 :: y168 :: y169 :: y170 :: y171 :: y172 :: y173 :: y174 :: y175 :: y176 :: y177 :: y178 :: y179 :: y180 :: y181 :: y182 :: y183 :: y184 :: y185 :: y186 :: y187 :: y188 :: y189 :: y190 :: y191 :: y192 :: y193 :: y194 :: y195 :: y196 :: y197 :: y198 :: y199 :: y200 :: []).toArray, defers := Ds.map mkD } w1 := by
  intro cd hcd
  dsimp only [swOf, roundOf, codeOf, Try.f6, cl, cr, ci, Option.getD_some] at hcd
  subst hcd
  have HP1 := Lib.hid hP1
  have HW1 := Lib.hid hW1
  have HB11 := Lib.hid hB11
  have HOK := Lib.hid hOK
  clear hP1 hW1 hB11 hOK
  have hkb : (o.k == 0) = false := by simp [hk0]
  have dK : w1.cell? ⟨g11, 0, none⟩ = some (.int .i64 o.k) := by rw [HB11.out.cell]; rfl
  have hzw1 := HW1.out.size
  have HK0 := Lib.hid hk0
  have HK1' := Lib.hid hk1
  have hkb1 : (o.k == 1) = true := by simp [hk1]
  clear hk0 hk1
  have HQ0 := Lib.hid (show Qs w1 w.heap.size gq n (p.row :: rest.map Wt.row) from HP1.out.q)
  have HPO := Lib.hid (HP1.out.dq p (List.mem_cons_self ..)).1
  have HPR := Lib.hid (HP1.out.dr p (List.mem_cons_self ..))
  go_wp2_with (first
    | (go_at_call 17; refine (take_c HQ0.out).mono ?_; rintro e w2 ⟨rfl, hq2, hb12, ht12⟩; have HP2 := Lib.hid (HP1.out.qop (ps' := rest) hq2 hb12 ht12 (fun x hx => .inl (List.mem_cons_of_mem _ hx))); have HPO2 := Lib.hid (Row.ty HPO.out ht12); have HPR2 := Lib.hid (HPR.out.below hb12); have bn15 := Blk.new w2 48 #[.int .i64 0, .int .i64 0, .int .i64 0, .int .i64 0, .int .i64 0, .int .i64 0, .slice none 0 0, .int .i64 0, .int .i64 0, .int .i64 0, .int .i64 0, .int .i64 0, .bool false])
    | ((with_reducible show wpList _ _ _ (Oper.mk (some 15) (Op.alloc _) _ _ _ _ :: _) _ _); refine wpList_alloc_agg rfl 48 rfl #[.int .i64 0, .int .i64 0, .int .i64 0, .int .i64 0, .int .i64 0, .int .i64 0, .slice none 0 0, .int .i64 0, .int .i64 0, .int .i64 0, .int .i64 0, .int .i64 0, .bool false] zeroW ?_)
    | ((with_reducible show wpList _ _ _ (Oper.mk none (Op.store _ (.tmp 15) _) _ _ _ _ :: _) _ _); refine wpList_store_whole rfl 48 (.tmp 15) (.tmp 128) rfl w2.heap.size rfl p.row rfl aggW p.row_ok.1 _ _ bn15 rfl p.row_ok.2 ?_; intro w3 b15 q15 s15; have h23 : Below w2.heap.size w2 w3 := (below_alloc _ _).grown q15 (by simp) (fun k hk => by cases hk; exact Nat.le_refl _); have HP3 := Lib.hid (HP2.out.below h23); have HW3 := Lib.hid (HW1.out.trans (hb12.trans (h23.mono HP2.out.size))); have HPO3 := Lib.hid (Row.below HPO2.out h23); have HPR3 := Lib.hid (HPR2.out.below (h23.mono HP2.out.size)); have d93 : w3.cell? ⟨g9, 0, none⟩ = some (.pointer (some ⟨gm, 0, none⟩)) := (by rw [HP3.out.b9.cell]; rfl); have HB15 := Lib.hid b15; have HR3 := Lib.hid (show Rq w3 w.heap.size gm n (p.row2 :: rest.map Wt.row2) from HP3.out.r); clear b15 q15 s15 h23 bn15 hb12 hq2 ht12)
    | (go_at_call 25; refine (rtake_yes HR3.out).mono ?_; rintro e w4 ⟨rfl, hr4, hb34, ht34⟩; have HP4 := Lib.hid (HP3.out.rop (rs' := rest) hr4 hb34 ht34 (fun x hx => .inl (List.mem_cons_of_mem _ hx))); have HW4 := Lib.hid (HW3.out.trans hb34); have HPO4 := Lib.hid (Row.tyR HPO3.out ht34 (by decide) (by decide)); have HPR4 := Lib.hid (HPR3.out.below hb34); have HB154 := Lib.hid (ht34.2 _ _ _ HB15.out (by decide) (by decide)); have bn17 := Blk.new w4 68 #[.int .i64 0, .int .i64 0, .int .i64 0, .int .i64 0, .int .i64 0, .int .i64 0, .slice none 0 0, .int .i64 0, .int .i64 0, .int .i64 0, .int .i64 0, .int .i64 0, .bool false])
    | ((with_reducible show wpList _ _ _ (Oper.mk (some 17) (Op.alloc _) _ _ _ _ :: _) _ _); refine wpList_alloc_agg rfl 68 rfl #[.int .i64 0, .int .i64 0, .int .i64 0, .int .i64 0, .int .i64 0, .int .i64 0, .slice none 0 0, .int .i64 0, .int .i64 0, .int .i64 0, .int .i64 0, .int .i64 0, .bool false] zeroR ?_)
    | ((with_reducible show wpList _ _ _ (Oper.mk none (Op.store _ (.tmp 17) _) _ _ _ _ :: _) _ _); refine wpList_store_whole rfl 68 (.tmp 17) (.tmp 133) rfl w4.heap.size rfl p.row2 rfl aggR p.row2_ok.1 _ _ bn17 rfl p.row2_ok.2 ?_; intro w5 b17 q17 s17; have h45 : Below w4.heap.size w4 w5 := (below_alloc _ _).grown q17 (by simp) (fun k hk => by cases hk; exact Nat.le_refl _); have HP5 := Lib.hid (HP4.out.below h45); have HW5 := Lib.hid (HW4.out.trans (h45.mono HW4.out.size)); have HPO5 := Lib.hid (OwB.below HPO4.out h45); have HPR5 := Lib.hid (HPR4.out.below (h45.mono HW4.out.size)); have HB155 := Lib.hid (HB154.out.below h45 HB154.out.lt); have HB17 := Lib.hid b17; clear b17 q17 s17 h45 bn17 hb34 hr4 ht34)
    | ((with_reducible show wpList _ _ _ (Oper.mk (some 139) (Op.load _ _) _ _ _ _ :: _) _ _); refine wpList_load_whole (by rfl) 48 (.tmp 15) rfl w2.heap.size rfl (wrb p.i p.n p.k p.b p.A p.m p.c).toArray aggW rfl _ HB155.out ?_)
    | ((with_reducible show wpList _ _ _ (Oper.mk (some 140) (Op.load _ _) _ _ _ _ :: _) _ _); refine wpList_load_whole (by rfl) 68 (.tmp 17) rfl w4.heap.size rfl (wrb p.i p.n p.k p.b p.A2 p.m p.c2).toArray aggR rfl _ HB17.out ?_)
    | (go_at_call 26; refine (sameW p.i p.n p.k p.b HPO5.out.sl HPR5.out (Nat.le_refl _) HW5.out.size).mono ?_; rintro e w6 ⟨rfl, hb56⟩))
  exact ⟨rest, _, _, _, _, _, _, _, _, _, _, _, _, _, _, _, _, _, _, _, _, _, _, _, _, _, _, _, _, _, _, _, _, _, _, _, _, _, _, _, _, _, _, _, _, _, _, _, _, _, _, _, _, _, _, _, _, _, _, _, _, _, _, _, _, _, _, _, _, _, _, _, _, _, _, _, _, _, _, _, _, _, _, _, _, _, _, _, _, _, _, _, _, _, _, _, _, _, _, _, _, _, _, _, _, _, _, _, _, _, _, _, _, _, _, _, _, _, _, _, _, _, _, _, _, _, _, _, _, _, _, _, _, _, _, _, _, _, _, _, _, _, _, _, _, _, _, _, _, _, _, _, _, _, _, _, _, _, _, _, _, _, _, _, _, _, _, _, _, _, _, _, _, _, _, _, _, _, _, _, _, _, _, _, _, _, _, _, _, _, _, _, _, _, HP5.out.below hb56, HW5.out.trans (hb56.mono HW5.out.size), rfl⟩

set_option maxHeartbeats 8000000 in
theorem sw_drop {w w1 : World} {g5 g6 gq g9 gm n mm gb off N c i g11 : Nat} {ps : List Wt} {Ds : List Nat} {o : Opw} (y0 y1 y2 y3 y4 y10 y12 y13 y14 y15 y16 y17 y18 y19 y20 y21 y22 y23 y24 y25 y26 y27 y28 y29 y30 y31 y32 y33 y34 y35 y36 y37 y38 y39 y40 y41 y42 y43 y44 y45 y46 y47 y48 y49 y50 y51 y52 y53 y54 y55 y56 y60 y61 y62 y63 y64 y65 y66 y67 y68 y69 y70 y71 y72 y73 y74 y75 y76 y77 y78 y79 y80 y81 y82 y83 y84 y85 y86 y87 y88 y89 y90 y91 y92 y93 y94 y95 y96 y97 y98 y99 y100 y101 y102 y103 y104 y105 y106 y107 y108 y109 y110 y111 y112 y113 y114 y115 y116 y117 y118 y119 y120 y121 y122 y123 y124 y125 y126 y127 y128 y129 y130 y131 y132 y133 y134 y135 y136 y137 y138 y139 y140 y141 y142 y143 y144 y145 y146 y147 y148 y149 y150 y151 y152 y153 y154 y155 y156 y157 y158 y159 y160 y161 y162 y163 y164 y165 y166 y167 y168 y169 y170 y171 y172 y173 y174 y175 y176 y177 y178 y179 y180 y181 y182 y183 y184 y185 y186 y187 y188 y189 y190 y191 y192 y193 y194 y195 y196 y197 y198 y199 y200 : Value) (hP1 : Pl w.heap.size g5 g6 gq g9 gm n mm ps ps Ds w1) (hW1 : Below w.heap.size w w1) (hB11 : Blk w1 g11 65 #[.int .i64 o.k, .int .i64 o.i, .int .i64 o.n, .slice o.A o.m o.c]) (hOK : o.ok w) (hpsn : ps.length ≤ n) (hk0 : ¬ o.k = 0) (hk1 : ¬ o.k = 1) :
    ∀ cd, swOf (codeOf Try.f6) = cd → cd.wp Try.prog (Exit.then (Mid1 w g5 g6 gq g9 gm n mm (some ⟨gb, off, none⟩) N c i Ds) (fun _ _ _ => False)) { tmps := (y0 :: y1 :: y2 :: y3 :: y4 :: (.pointer (some ⟨g5, 0, none⟩)) :: (.pointer (some ⟨g6, 0, none⟩)) :: (.pointer (some ⟨gq, 0, none⟩)) :: (.nilIface) :: (.pointer (some ⟨g9, 0, none⟩)) :: y10 :: (.pointer (some ⟨g11, 0, none⟩)) :: y12 :: y13 :: y14 :: y15 :: y16 :: y17 :: y18 :: y19 :: y20 :: y21 :: y22 :: y23 :: y24 :: y25 :: y26 :: y27 :: y28 :: y29 :: y30 :: y31 :: y32 :: y33 :: y34 :: y35 :: y36 :: y37 :: y38 :: y39 :: y40 :: y41 :: y42 :: y43 :: y44 :: y45 :: y46 :: y47 :: y48 :: y49 :: y50 :: y51 :: y52 :: y53 :: y54 :: y55 :: y56 :: (.slice (some ⟨gb, off, none⟩) N c) :: (.int .i64 (N : Int)) :: (.int .i64 (i : Int)) :: y60 :: y61 :: y62 :: y63 :: y64 :: y65 :: y66 :: y67 :: y68 :: y69 :: y70 :: y71 :: y72 :: y73 :: y74 :: y75 :: y76 :: y77 :: y78 :: y79 :: y80 :: y81 :: y82 :: y83 :: y84 :: y85 :: y86 :: y87 :: y88 :: y89 :: y90 :: y91 :: y92 :: y93 :: y94 :: y95 :: y96 :: y97 :: y98 :: y99 :: y100 :: y101 :: y102 :: y103 :: y104 :: y105 :: y106 :: y107 :: y108 :: y109 :: y110 :: y111 :: y112 :: y113 :: y114 :: y115 :: y116 :: y117 :: y118 :: y119 :: y120 :: y121 :: y122 :: y123 :: y124 :: y125 :: y126 :: y127 :: y128 :: y129 :: y130 :: y131 :: y132 :: y133 :: y134 :: y135 :: y136 :: y137 :: y138 :: y139 :: y140 :: y141 :: y142 :: y143 :: y144 :: y145 :: y146 :: y147 :: y148 :: y149 :: y150 :: y151 :: y152 :: y153 :: y154 :: y155 :: y156 :: y157 :: y158 :: y159 :: y160 :: y161 :: y162 :: y163 :: y164 :: y165 :: y166 :: y167 :: y168 :: y169 :: y170 :: y171 :: y172 :: y173 :: y174 :: y175 :: y176 :: y177 :: y178 :: y179 :: y180 :: y181 :: y182 :: y183 :: y184 :: y185 :: y186 :: y187 :: y188 :: y189 :: y190 :: y191 :: y192 :: y193 :: y194 :: y195 :: y196 :: y197 :: y198 :: y199 :: y200 :: []).toArray, defers := Ds.map mkD } w1 := by
  intro cd hcd
  dsimp only [swOf, roundOf, codeOf, Try.f6, cl, cr, ci, Option.getD_some] at hcd
  subst hcd
  have HP1 := Lib.hid hP1
  have HW1 := Lib.hid hW1
  have HB11 := Lib.hid hB11
  have HOK := Lib.hid hOK
  clear hP1 hW1 hB11 hOK
  have hkb : (o.k == 0) = false := by simp [hk0]
  have dK : w1.cell? ⟨g11, 0, none⟩ = some (.int .i64 o.k) := by rw [HB11.out.cell]; rfl
  have hzw1 := HW1.out.size
  have HK0 := Lib.hid hk0
  have HK1' := Lib.hid hk1
  have hkb1 : (o.k == 1) = false := by simp [hk1]
  clear hk0 hk1
  obtain ⟨pf, hpf⟩ : ∃ pf, pf = ps.filter (fun p => p.i != o.i) := ⟨_, rfl⟩
  have HPF := Lib.hid hpf
  have hpfl : pf.length ≤ ps.length := by rw [hpf]; exact List.length_filter_le _ _
  clear hpf
  go_wp2_with fail
  refine (wpIn_wide (n := 4)).1 ?_
  refine wpIn_region_relS free_wide rfl 7 (fun _ _ => True) (fun W W' => Below W.heap.size W W') 3 (CD w1 w.heap.size gq n ps pf)
    [Det (.pointer (some ⟨gq, 0, none⟩)), Det (.pointer (some ⟨g11, 1, none⟩)), Det (.int .i64 o.i), Det (.int .i64 ((ps.length : Int) - (pf.length : Int))), Det (.pointer (some ⟨gm, 0, none⟩)), Det (.pointer (some ⟨g11, 1, none⟩)), Det (.int .i64 o.i), Any, Any]
    [[], [], [(1, some 66)], [(0, some 65), (2, some 67)], [], [], [(5, some 70)], [(4, some 69), (6, some 71)], [(3, some 68), (7, some 72)]]
    [[], [], [1], [0, 1, 2], [], [], [5], [0, 1, 2, 3, 4, 5, 6], [0, 1, 2, 3, 4, 5, 6, 7]]
    [(0, some 65), (1, some 66), (2, some 67), (3, some 68), (4, some 69), (5, some 70), (6, some 71), (7, some 72), (8, some 73)] (by kernel_rfl) (by kernel_rfl) (by kernel_rfl) (fun b W W1 h1 h2 => CD.step h1 h2) (by decide) (CD.start HP1.out.q) ?_ ?_ ?_
  · exact (AllMono.cons (Det.laterT trivial) (AllMono.cons (Det.laterT trivial) (AllMono.cons (Det.laterT trivial) (AllMono.cons (Det.laterT trivial) (AllMono.cons (Det.laterT trivial) (AllMono.cons (Det.laterT trivial) (AllMono.cons (Det.laterT trivial) (AllMono.cons (Any.laterT trivial) (AllMono.cons (Any.laterT trivial) AllMono.nil)))))))))
  · refine AllObS.cons (by decide) ?_ (AllObS.cons (by decide) ?_ (AllObS.cons (by decide) ?_ (AllObS.call ?_ (AllObS.cons (by decide) ?_ (AllObS.cons (by decide) ?_ (AllObS.cons (by decide) ?_ (AllObS.nil)))))))
    · intro bF uF W hC' hU aF hF
      have hC : CD w1 w.heap.size gq n ps pf bF W := hC'
      clear hC'
      simp only [puts] at hF
      subst hF
      go_wp2_with (fail)
      exact ⟨rfl, rfl, (Below.refl _ _), rfl⟩
    · intro bF uF W hC' hU aF hF
      have hC : CD w1 w.heap.size gq n ps pf bF W := hC'
      clear hC'
      simp only [puts] at hF
      subst hF
      go_wp2_with (fail)
      exact ⟨rfl, rfl, (Below.refl _ _), rfl⟩
    · intro bF uF W hC' hU aF hF
      have hC : CD w1 w.heap.size gq n ps pf bF W := hC'
      clear hC'
      have h66 : (Det (.pointer (some ⟨g11, 1, none⟩))) (uF 1) W := hU.1
      clear hU
      simp only [puts, Act.put, List.setIfInBounds_toArray, List.set_cons_zero, List.set_cons_succ] at hF
      generalize uF 1 = x66 at h66 hF
      obtain rfl : x66 = (.pointer (some ⟨g11, 1, none⟩)) := h66
      subst hF
      have d_1 : W.cell? ⟨g11, 1, none⟩ = some (.int .i64 o.i) := by rw [(hC.1.2 _ _ _ HB11.out (by decide) (by decide)).cell]; rfl
      go_wp2_with (fail)
      exact ⟨rfl, rfl, (Below.refl _ _), rfl⟩
    · intro uF W hC' hU aF hF
      have hC : CD w1 w.heap.size gq n ps pf false W := hC'
      clear hC'
      have h65 : (Det (.pointer (some ⟨gq, 0, none⟩))) (uF 0) W := hU.1
      have h67 : (Det (.int .i64 o.i)) (uF 2) W := hU.2.1
      clear hU
      simp only [puts, Act.put, List.setIfInBounds_toArray, List.set_cons_zero, List.set_cons_succ] at hF
      generalize uF 0 = x65 at h65 hF
      generalize uF 2 = x67 at h67 hF
      obtain rfl : x65 = (.pointer (some ⟨gq, 0, none⟩)) := h65
      obtain rfl : x67 = (.int .i64 o.i) := h67
      subst hF
      go_wp2_with ((go_at_call 19; refine (dropW o.i hC.was).mono ?_; rintro e W1 ⟨rfl, hq, hb, ht⟩; rw [← HPF.out] at hq ⊢))
      exact ⟨rfl, rfl, ⟨trivial, CD.call hC hq hb ht⟩, rfl⟩
    · intro bF uF W hC' hU aF hF
      have hC : CD w1 w.heap.size gq n ps pf bF W := hC'
      clear hC'
      simp only [puts] at hF
      subst hF
      have d_9 : W.cell? ⟨g9, 0, none⟩ = some (.pointer (some ⟨gm, 0, none⟩)) := by rw [(hC.1.2 _ _ _ HP1.out.b9 (by decide) (by decide)).cell]; rfl
      go_wp2_with (fail)
      exact ⟨rfl, rfl, (Below.refl _ _), rfl⟩
    · intro bF uF W hC' hU aF hF
      have hC : CD w1 w.heap.size gq n ps pf bF W := hC'
      clear hC'
      simp only [puts] at hF
      subst hF
      go_wp2_with (fail)
      exact ⟨rfl, rfl, (Below.refl _ _), rfl⟩
    · intro bF uF W hC' hU aF hF
      have hC : CD w1 w.heap.size gq n ps pf bF W := hC'
      clear hC'
      have h70 : (Det (.pointer (some ⟨g11, 1, none⟩))) (uF 5) W := hU.1
      clear hU
      simp only [puts, Act.put, List.setIfInBounds_toArray, List.set_cons_zero, List.set_cons_succ] at hF
      generalize uF 5 = x70 at h70 hF
      obtain rfl : x70 = (.pointer (some ⟨g11, 1, none⟩)) := h70
      subst hF
      have d_1 : W.cell? ⟨g11, 1, none⟩ = some (.int .i64 o.i) := by rw [(hC.1.2 _ _ _ HB11.out (by decide) (by decide)).cell]; rfl
      go_wp2_with (fail)
      exact ⟨rfl, rfl, (Below.refl _ _), rfl⟩
  intro uF w2 hC' hU aF hF
  have hCw2 : CD w1 w.heap.size gq n ps pf true w2 := hC'
  clear hC'
  have h68 : (Det (.int .i64 ((ps.length : Int) - (pf.length : Int)))) (uF 3) w2 := hU.2.2.2.1
  have h69 : (Det (.pointer (some ⟨gm, 0, none⟩))) (uF 4) w2 := hU.2.2.2.2.1
  have h71 : (Det (.int .i64 o.i)) (uF 6) w2 := hU.2.2.2.2.2.2.1
  clear hU
  simp only [List.take_succ_cons, List.take_zero, puts, Act.put, List.setIfInBounds_toArray, List.set_cons_zero, List.set_cons_succ] at hF
  generalize uF 0 = x65 at hF
  generalize uF 1 = x66 at hF
  generalize uF 2 = x67 at hF
  generalize uF 3 = x68 at h68 hF
  generalize uF 4 = x69 at h69 hF
  generalize uF 5 = x70 at hF
  generalize uF 6 = x71 at h71 hF
  obtain rfl : x68 = (.int .i64 ((ps.length : Int) - (pf.length : Int))) := h68
  obtain rfl : x69 = (.pointer (some ⟨gm, 0, none⟩)) := h69
  obtain rfl : x71 = (.int .i64 o.i) := h71
  subst hF
  simp only [List.drop_succ_cons, List.drop_zero]
  have HP2 := Lib.hid (HP1.out.qop (ps' := pf) hCw2.now hCw2.2.1 hCw2.1 (fun x hx => by rw [HPF.out] at hx; exact .inl (List.mem_filter.1 hx).1))
  have HW2 := Lib.hid (HW1.out.trans hCw2.2.1)
  clear hCw2
  gi_wp2
  refine ⟨trivial, callsIn_wide.2 ((rdrop_c o.i HP2.out.r).mono ?_)⟩
  rintro e w3 ⟨rfl, hr3, hb23, ht23⟩
  rw [← HPF.out] at hr3 ⊢
  have HP3 := Lib.hid (HP2.out.rop (rs' := pf) hr3 hb23 ht23 (fun x hx => by rw [HPF.out] at hx; exact .inl (List.mem_filter.1 hx).1))
  have HW3 := Lib.hid (HW2.out.trans hb23)
  clear hr3 hb23 ht23
  gi_wp2
  go_wp2_with fail
  exact ⟨pf, _, _, _, _, _, _, _, _, _, _, _, _, _, _, _, _, _, _, _, _, _, _, _, _, _, _, _, _, _, _, _, _, _, _, _, _, _, _, _, _, _, _, _, _, _, _, _, _, _, _, _, _, _, _, _, _, _, _, _, _, _, _, _, _, _, _, _, _, _, _, _, _, _, _, _, _, _, _, _, _, _, _, _, _, _, _, _, _, _, _, _, _, _, _, _, _, _, _, _, _, _, _, _, _, _, _, _, _, _, _, _, _, _, _, _, _, _, _, _, _, _, _, _, _, _, _, _, _, _, _, _, _, _, _, _, _, _, _, _, _, _, _, _, _, _, _, _, _, _, _, _, _, _, _, _, _, _, _, _, _, _, _, _, _, _, _, _, _, _, _, _, _, _, _, _, _, _, _, _, _, _, _, _, _, _, _, _, _, _, _, _, _, _, HP3.out, HW3.out, rfl⟩

set_option maxHeartbeats 8000000 in
theorem range_c {w u1 u2 : World} {g5 g6 gq g9 gm n mm gb off N c i g19 : Nat} {ps' : List Wt} {Ds : List Nat} (y0 y1 y2 y3 y4 y10 y11 y12 y13 y14 y15 y16 y17 y18 y20 y21 y22 y23 y24 y25 y26 y27 y28 y29 y30 y31 y32 y33 y34 y35 y36 y37 y38 y39 y40 y41 y42 y43 y44 y45 y46 y47 y48 y49 y50 y51 y52 y53 y54 y55 y56 y60 y61 y62 y63 y64 y65 y66 y67 y68 y69 y70 y71 y72 y73 y74 y75 y76 y77 y78 y79 y80 y81 y82 y83 y84 y85 y86 y87 y88 y89 y90 y91 y92 y93 y94 y95 y96 y97 y98 y99 y100 y101 y102 y103 y104 y105 y106 y107 y108 y109 y110 y111 y112 y113 y114 y115 y116 y117 y118 y119 y120 y121 y122 y123 y124 y125 y126 y127 y128 y129 y130 y131 y132 y133 y134 y135 y136 y137 y138 y139 y140 y141 y142 y143 y144 y145 y146 y147 y148 y149 y150 y151 y152 y153 y154 y155 y156 y157 y158 y159 y160 y161 y162 y163 y164 y165 y166 y167 y168 y169 y170 y171 y172 y173 y174 y175 y176 y177 y178 y179 y180 y181 y182 y183 y184 y185 y186 y187 y188 y189 y190 y191 y192 y193 y194 y195 y196 y197 y198 y199 y200 : Value) (hP1 : Pl w.heap.size g5 g6 gq g9 gm n mm ps' ps' Ds u1) (hW1 : Below w.heap.size w u1) (hb12 : Below u1.heap.size u1 u2) (hg19 : g19 = u1.heap.size) (hb19 : Blk u2 g19 3 #[.int .i64 0]) (hmb : 1 ≤ mm ∧ mm ≤ 9) :
    ∀ cd, rgOf (codeOf Try.f6) = cd → cd.wp Try.prog (Exit.then (Mid2 w g5 g6 gq g9 gm n mm (some ⟨gb, off, none⟩) N c i ps' Ds) (fun _ _ _ => False)) { tmps := (y0 :: y1 :: y2 :: y3 :: y4 :: (.pointer (some ⟨g5, 0, none⟩)) :: (.pointer (some ⟨g6, 0, none⟩)) :: (.pointer (some ⟨gq, 0, none⟩)) :: (.nilIface) :: (.pointer (some ⟨g9, 0, none⟩)) :: y10 :: y11 :: y12 :: y13 :: y14 :: y15 :: y16 :: y17 :: y18 :: (.pointer (some ⟨g19, 0, none⟩)) :: y20 :: y21 :: y22 :: y23 :: y24 :: y25 :: y26 :: y27 :: y28 :: y29 :: y30 :: y31 :: y32 :: y33 :: y34 :: y35 :: y36 :: y37 :: y38 :: y39 :: y40 :: y41 :: y42 :: y43 :: y44 :: y45 :: y46 :: y47 :: y48 :: y49 :: y50 :: y51 :: y52 :: y53 :: y54 :: y55 :: y56 :: (.slice (some ⟨gb, off, none⟩) N c) :: (.int .i64 (N : Int)) :: (.int .i64 (i : Int)) :: y60 :: y61 :: y62 :: y63 :: y64 :: y65 :: y66 :: y67 :: y68 :: y69 :: y70 :: y71 :: y72 :: y73 :: y74 :: y75 :: y76 :: y77 :: y78 :: y79 :: y80 :: y81 :: y82 :: y83 :: y84 :: y85 :: y86 :: y87 :: y88 :: y89 :: y90 :: y91 :: y92 :: y93 :: y94 :: y95 :: y96 :: y97 :: y98 :: y99 :: y100 :: y101 :: y102 :: y103 :: y104 :: y105 :: y106 :: y107 :: y108 :: y109 :: y110 :: y111 :: y112 :: y113 :: y114 :: y115 :: y116 :: y117 :: y118 :: y119 :: y120 :: y121 :: y122 :: y123 :: y124 :: y125 :: y126 :: y127 :: y128 :: y129 :: y130 :: y131 :: y132 :: y133 :: y134 :: y135 :: y136 :: y137 :: y138 :: y139 :: y140 :: y141 :: y142 :: y143 :: y144 :: y145 :: y146 :: y147 :: y148 :: y149 :: y150 :: y151 :: y152 :: y153 :: y154 :: y155 :: y156 :: y157 :: y158 :: y159 :: y160 :: y161 :: y162 :: y163 :: y164 :: y165 :: y166 :: y167 :: y168 :: y169 :: y170 :: y171 :: y172 :: y173 :: y174 :: y175 :: y176 :: y177 :: y178 :: y179 :: y180 :: y181 :: y182 :: y183 :: y184 :: y185 :: y186 :: y187 :: y188 :: y189 :: y190 :: y191 :: y192 :: y193 :: y194 :: y195 :: y196 :: y197 :: y198 :: y199 :: y200 :: []).toArray, defers := Ds.map mkD } u2 := by
  intro cd hcd
  dsimp only [rgOf, roundOf, codeOf, Try.f6, cl, cr, ci, Option.getD_some] at hcd
  subst hcd
  have HP1' := Lib.hid hP1
  have HW1' := Lib.hid hW1
  have HB12 := Lib.hid hb12
  have HG19 := Lib.hid hg19
  have HB19 := Lib.hid hb19
  have hzu1 := hW1.size
  have hz2u := hb12.size
  clear hP1 hW1 hb12 hg19 hb19
  obtain ⟨gs, f, kq, rows, hR1, hbq, hbs, hvw⟩ := HP1'.out.q
  have hgq1 := hR1.bq.lt
  have hgs1 := hR1.bs.lt
  have HWL := Lib.hid (show ∀ p ∈ ps', ∀ g, wrote p.A p.c = some g → g < u1.heap.size from fun p hp g e => by
    rcases Row.wrote_lt (HP1'.out.dq p hp).1 with h1 | ⟨g', _, h1, _, hlt, _⟩
    · rw [h1] at e; cases e
    · rw [h1] at e; cases e; exact hlt)
  have HR1 := Lib.hid hR1
  have HVW := Lib.hid hvw
  clear hR1 hvw
  go_wp2_with (go_at_call 28; refine (all_c gq u2).mono ?_; rintro e x2 ⟨rfl, hx2⟩)
  have hb2x : Below u2.heap.size u2 x2 := by rw [hx2]; exact below_alloc _ _
  obtain ⟨p1, hp1⟩ : ∃ g, g = u2.heap.size := ⟨_, rfl⟩
  have bp : Blk x2 p1 37 #[.pointer (some ⟨gq, 0, none⟩)] := by rw [hx2, hp1]; exact Blk.new _ _ _
  rw [← hx2, ← hp1]
  have h1x : Below u1.heap.size u1 x2 := HB12.out.trans (hb2x.mono hz2u)
  have hzux := h1x.size
  have hz2x := hb2x.size
  have hp1x := bp.lt
  have hg19u := HB19.out.lt
  have hg19l : u1.heap.size ≤ g19 := Nat.le_of_eq HG19.out.symm
  have hp1l : u2.heap.size ≤ p1 := Nat.le_of_eq hp1.symm
  have hPx := HP1'.out.below h1x
  have HRI := Lib.hid (show RI u1 g19 0 (fun k => k = g19) x2 from ⟨h1x, fun k hk => by rw [hk]; exact hg19l, rfl, HB19.out.below hb2x HB19.out.lt⟩)
  have HDX := Lib.hid (show ∀ p ∈ ps', OwB x2 w.heap.size p.A p.m p.c p.bs ∧ p.m ≤ 140737488351232 from hPx.dq)
  have HRX := Lib.hid (HR1.out.below h1x)
  have HBP := Lib.hid bp
  have HDS := Lib.hid (show ∀ E ∈ Ds, E < u1.heap.size from fun E hE => (Array.getElem?_eq_some_iff.1 (HP1'.out.ms.2 E hE).2).1)
  clear hx2 hb2x bp hPx HR1 h1x hp1 HB12 HB19 HG19
  refine wp_at fun a0 ha0 => ?_
  refine wp_rangeG (O := fun k => k = g19) (a := a0) (by rw [ha0]; rfl) (enters_of Try.func37 (by kernel_rfl) rfl) (all_iter (base := w.heap.size) HBP.out HRX.out HVW.out.symm HDX.out) (Below.refl _ _) (fun _ => rfl) (fun k hk => by
      subst hk
      exact ⟨⟨by omega, by omega, by omega, fun p hp e => by have := HWL.out p hp _ e; omega⟩, by omega⟩)
    (fun O' pre W' => RI u1 g19 pre.length O' W' ∧ pre.length < mm)
    (fun cx pre W' => cx = .exit 3 ∧ (∃ O', RI u1 g19 pre.length O' W') ∧ pre.length = mm)
    (fun O' => ownFrom_of fun s X X' hs hc => ⟨hs.1.calm hc hzux, hs.2⟩)
    (fun c => ownFrom_of fun s X X' hs hc => ⟨hs.1, by obtain ⟨O', h⟩ := hs.2.1; exact ⟨O', h.calm hc hzux⟩, hs.2.2⟩)
    (fun O' pre Wa Wb g hi hb hg => ⟨(hi.1.more g hg).on hb, hi.2⟩) ⟨HRI.out, by show 0 < mm; omega⟩
    (fun O' pre x a' W' => (RI u1 g19 pre.length O' W' ∧ pre.length < mm) ∧ x.1 = pre.length ∧ x.1 < ps'.length ∧ OwB W' x2.heap.size x.2.1 (nthW ps' x.1).m x.2.2 (nthW ps' x.1).bs ∧ (∀ g, wrote x.2.1 x.2.2 = some g → O' g) ∧ ∃ g21, Blk W' g21 48 (wrb (nthW ps' x.1).i (nthW ps' x.1).n (nthW ps' x.1).k (nthW ps' x.1).b x.2.1 (nthW ps' x.1).m x.2.2).toArray ∧ a' = { tmps := ((((a0.tmps.setIfInBounds 146 (.int .i64 (x.1 : Int))).setIfInBounds 147 (.agg (wrb (nthW ps' x.1).i (nthW ps' x.1).n (nthW ps' x.1).k (nthW ps' x.1).b x.2.1 (nthW ps' x.1).m x.2.2).toArray)).setIfInBounds 20 (.int .i64 (x.1 : Int))).setIfInBounds 21 (.pointer (some ⟨g21, 0, none⟩))), defers := [] })
    (fun O' pre x a' => ownFrom_of fun s X X' hs hc => ⟨⟨hs.1.1.calm hc hzux, hs.1.2⟩, hs.2.1, hs.2.2.1, hc.row hs.2.2.2.1, hs.2.2.2.2.1, by obtain ⟨g21, hb, e⟩ := hs.2.2.2.2.2; exact ⟨g21, hc.blk hb, e⟩⟩) ?_ ?_ ?_ ?_
  · rintro l' O' pre x W' K hI ⟨hx1, hx2, hx3, hx4⟩ hK
    have HX1 := Lib.hid hx1
    have HX2 := Lib.hid hx2
    have HX3 := Lib.hid hx3
    have HX4 := Lib.hid hx4
    have HII := Lib.hid hI
    have HKK := Lib.hid hK
    clear hx1 hx2 hx3 hx4 hI hK
    rw [encW]
    simp only [fold_two]
    subst ha0
    simp only [List.setIfInBounds_toArray, List.set_cons_succ, List.set_cons_zero]
    have bn := Blk.new W' 48 #[.int .i64 0, .int .i64 0, .int .i64 0, .int .i64 0, .int .i64 0, .int .i64 0, .slice none 0 0, .int .i64 0, .int .i64 0, .int .i64 0, .int .i64 0, .int .i64 0, .bool false]
    refine wpIn_seq_k fun KA hKA => ?_
    have HKA := Lib.hid hKA
    clear hKA
    gi_wp2
    refine HKA.out _ _ ?_
    refine wpIn_region_of (free_rd l') rfl (fun ⟨_, _, h⟩ => h) ?_
    go_wp2_with (first
      | ((with_reducible show wpList _ _ _ (Oper.mk (some 21) (Op.alloc _) _ _ _ _ :: _) _ _); refine wpList_alloc_agg rfl 48 rfl #[.int .i64 0, .int .i64 0, .int .i64 0, .int .i64 0, .int .i64 0, .int .i64 0, .slice none 0 0, .int .i64 0, .int .i64 0, .int .i64 0, .int .i64 0, .int .i64 0, .bool false] zeroW ?_)
      | ((with_reducible show wpList _ _ _ (Oper.mk none (Op.store _ (.tmp 21) _) _ _ _ _ :: _) _ _); refine wpList_store_whole rfl 48 (.tmp 21) (.tmp 147) rfl W'.heap.size rfl (wrb (nthW ps' x.1).i (nthW ps' x.1).n (nthW ps' x.1).k (nthW ps' x.1).b x.2.1 (nthW ps' x.1).m x.2.2) rfl aggW rfl _ _ bn rfl (wrb_ok _ _ _ _ _ _ _).2 ?_; intro V b21 q21 s21))
    have h0V : Below W'.heap.size W' V := (below_alloc _ _).grown q21 (by simp) (fun k hk => by cases hk; exact Nat.le_refl _)
    exact HKK.out O' _ _ (Kept.below h0V) ⟨⟨HII.out.1.on h0V, HII.out.2⟩, HX1.out, HX2.out, OwB.below HX3.out h0V, HX4.out, W'.heap.size, b21, rfl⟩
  · rintro l' O' pre ⟨j, A5, c5⟩ a' W' ⟨⟨sx, hltm⟩, hx1, hx2, hx3, hx4, g21, b21, rfl⟩
    dsimp only at hx1 hx2 hx3 hx4 sx hltm b21 ⊢
    rw [← hx1] at sx hltm
    obtain ⟨p, hp⟩ : ∃ p, p = nthW ps' j := ⟨_, rfl⟩
    have hpm : p ∈ ps' := by rw [hp]; exact nthW_mem hx2
    have hrow : (ps'.map Wt.row2)[j]? = some p.row2 := by rw [List.getElem?_map, nthW_some hx2, ← hp]; rfl
    rw [← hp] at hx3 b21
    rw [← hp]
    have hP := HP1'.out.below sx.bel
    obtain ⟨AL, cL, m1, m2, _, m4, _, _⟩ := hP.r
    obtain ⟨gl, rfl, hgl, _, hjL, hLc, hcell⟩ := Row.cellR m2 m4 hrow
    rw [List.length_map] at m1 hjL hLc
    have hcLm : cL ≤ 9223372036854775807 := m2.2.2.1
    have hLn : ps'.length ≤ n := by have := hP.q.le.1; rwa [List.length_map] at this
    obtain ⟨L, hL⟩ : ∃ L, L = ps'.length := ⟨_, rfl⟩
    rw [← hL] at m1 hjL hLc hLn
    have hjl : (j : Int) < (L : Int) := by omega
    have hlj : ¬ (L : Int) ≤ (j : Int) := by omega
    have hj0 : (0 : Int) ≤ (j : Int) := by omega
    have hj8 : (j : Int) ≤ 8 := by omega
    have hpm' := (hP.dq p hpm).2
    have hzwW : w.heap.size ≤ W'.heap.size := hP.size
    have hzWx := sx.bel.size
    have HM1 := Lib.hid m1
    have HCELL := Lib.hid hcell
    have HBK := Lib.hid sx.b19
    have HBG := Lib.hid hP.b9
    have HDR := Lib.hid (hP.dr p hpm)
    have HX3 := Lib.hid hx3
    have HX4 := Lib.hid hx4
    have HSX := Lib.hid sx
    have HB21 := Lib.hid b21
    have HX1 := Lib.hid (show (pre ++ [(j, A5, c5)]).length = j + 1 by rw [List.length_append, hx1]; rfl)
    have hgW21 := b21.lt
    clear m1 m2 m4 hcell hP sx hx1 hx2 hx3 hx4 b21 hp hpm hrow hL
    subst ha0
    simp only [List.setIfInBounds_toArray, List.set_cons_succ, List.set_cons_zero]
    refine wpIn_block ?_
    refine wpIn_seq_k fun KA hKA => ?_
    have HKA := Lib.hid hKA
    clear hKA
    refine wpIn_seq_k fun KB hKB => ?_
    have HKB := Lib.hid hKB
    clear hKB
    refine wpIn_region_rel (free_rd l') rfl 24 (fun W W' => Below W.heap.size W W') (fun W => Below W'.heap.size W' W)
      [Det (.int .i64 (j : Int)), Det (.int .i64 (j : Int)), Det (.bool false), Det (.bool false), Det (.int .i64 (j : Int)), Det (.pointer (some ⟨gm, 0, none⟩)), Det (.pointer (some ⟨gm, 0, none⟩)), Det (.pointer (some ⟨gm, 1, none⟩)), Det (.slice (some ⟨gl, 0, none⟩) L cL), Det (.int .i64 (L : Int)), Det (.bool false), Det (.bool false), Det (.bool false), Det (.agg (wrb p.i p.n p.k p.b A5 p.m c5).toArray), Det (.pointer (some ⟨gm, 0, none⟩)), Det (.pointer (some ⟨gm, 0, none⟩)), Det (.pointer (some ⟨gm, 1, none⟩)), Det (.slice (some ⟨gl, 0, none⟩) L cL), Det (.int .i64 (j : Int)), Det (.pointer (some ⟨gl, j * 13, none⟩)), Det (.agg (wrb p.i p.n p.k p.b p.A2 p.m p.c2).toArray), Det (.bool true), Det (.bool false), Det (.bool false)]
      [[], [], [(0, some 148), (1, some 149)], [(2, some 150)], [(3, some 151)], [(3, some 151)], [(5, some 153), (3, some 151)], [(6, some 154), (3, some 151)], [(7, some 155), (3, some 151)], [(8, some 156), (3, some 151)], [(4, some 152), (9, some 157), (3, some 151)], [(3, some 151), (10, some 158)], [(11, some 159)], [(12, some 160)], [(12, some 160)], [(14, some 162), (12, some 160)], [(15, some 163), (12, some 160)], [(16, some 164), (12, some 160)], [(12, some 160)], [(17, some 165), (18, some 166), (12, some 160)], [(19, some 167), (12, some 160)], [(13, some 161), (20, some 168), (12, some 160)], [(21, some 169), (12, some 160)], [(12, some 160), (22, some 170)]]
      [[], [], [0, 1], [0, 1, 2], [0, 1, 2, 3], [0, 1, 2, 3], [0, 1, 2, 3, 5], [0, 1, 2, 3, 5, 6], [0, 1, 2, 3, 5, 6, 7], [0, 1, 2, 3, 5, 6, 7, 8], [0, 1, 2, 3, 4, 5, 6, 7, 8, 9], [0, 1, 2, 3, 4, 5, 6, 7, 8, 9, 10], [0, 1, 2, 3, 4, 5, 6, 7, 8, 9, 10, 11], [0, 1, 2, 3, 4, 5, 6, 7, 8, 9, 10, 11, 12], [0, 1, 2, 3, 4, 5, 6, 7, 8, 9, 10, 11, 12], [0, 1, 2, 3, 4, 5, 6, 7, 8, 9, 10, 11, 12, 14], [0, 1, 2, 3, 4, 5, 6, 7, 8, 9, 10, 11, 12, 14, 15], [0, 1, 2, 3, 4, 5, 6, 7, 8, 9, 10, 11, 12, 14, 15, 16], [0, 1, 2, 3, 4, 5, 6, 7, 8, 9, 10, 11, 12], [0, 1, 2, 3, 4, 5, 6, 7, 8, 9, 10, 11, 12, 14, 15, 16, 17, 18], [0, 1, 2, 3, 4, 5, 6, 7, 8, 9, 10, 11, 12, 14, 15, 16, 17, 18, 19], [0, 1, 2, 3, 4, 5, 6, 7, 8, 9, 10, 11, 12, 13, 14, 15, 16, 17, 18, 19, 20], [0, 1, 2, 3, 4, 5, 6, 7, 8, 9, 10, 11, 12, 13, 14, 15, 16, 17, 18, 19, 20, 21], [0, 1, 2, 3, 4, 5, 6, 7, 8, 9, 10, 11, 12, 13, 14, 15, 16, 17, 18, 19, 20, 21, 22]]
      [(0, some 148), (1, some 149), (2, some 150), (3, some 151), (4, some 152), (5, some 153), (6, some 154), (7, some 155), (8, some 156), (9, some 157), (10, some 158), (11, some 159), (12, some 160), (13, some 161), (14, some 162), (15, some 163), (16, some 164), (17, some 165), (18, some 166), (19, some 167), (20, some 168), (21, some 169), (22, some 170), (23, some 171)] (by kernel_rfl) (by kernel_rfl) (by kernel_rfl) (fun W W' h1 h2 => h1.trans (h2.mono h1.size)) ((Below.refl _ _).drew) ?_ ?_ ?_
    · exact (AllMono.cons Det.later (AllMono.cons Det.later (AllMono.cons Det.later (AllMono.cons Det.later (AllMono.cons Det.later (AllMono.cons Det.later (AllMono.cons Det.later (AllMono.cons Det.later (AllMono.cons Det.later (AllMono.cons Det.later (AllMono.cons Det.later (AllMono.cons Det.later (AllMono.cons Det.later (AllMono.cons Det.later (AllMono.cons Det.later (AllMono.cons Det.later (AllMono.cons Det.later (AllMono.cons Det.later (AllMono.cons Det.later (AllMono.cons Det.later (AllMono.cons Det.later (AllMono.cons Det.later (AllMono.cons Det.later (AllMono.cons Det.later AllMono.nil))))))))))))))))))))))))
    · refine AllOb.cons ?_ (AllOb.cons ?_ (AllOb.cons ?_ (AllOb.cons ?_ (AllOb.cons ?_ (AllOb.cons ?_ (AllOb.cons ?_ (AllOb.cons ?_ (AllOb.cons ?_ (AllOb.cons ?_ (AllOb.cons ?_ (AllOb.cons ?_ (AllOb.cons ?_ (AllOb.cons ?_ (AllOb.cons ?_ (AllOb.cons ?_ (AllOb.cons ?_ (AllOb.cons ?_ (AllOb.cons ?_ (AllOb.cons ?_ (AllOb.cons ?_ (AllOb.cons ?_ (AllOb.cons ?_ (AllOb.cons ?_ (AllOb.nil))))))))))))))))))))))))
      · intro uF W hC' hU aF hF
        have hC : Below W'.heap.size W' W := hC'
        clear hC'
        simp only [puts] at hF
        subst hF
        go_wp2_with (fail)
        exact ⟨rfl, rfl, (Below.refl _ _), rfl⟩
      · intro uF W hC' hU aF hF
        have hC : Below W'.heap.size W' W := hC'
        clear hC'
        simp only [puts] at hF
        subst hF
        have d_g19 : W.cell? ⟨g19, 0, none⟩ = some (.int .i64 (j : Int)) := by rw [(HBK.out.below hC HBK.out.lt).cell]; rfl
        go_wp2_with (fail)
        exact ⟨rfl, rfl, (Below.refl _ _), rfl⟩
      · intro uF W hC' hU aF hF
        have hC : Below W'.heap.size W' W := hC'
        clear hC'
        have h148 : (Det (.int .i64 (j : Int))) (uF 0) W := hU.1
        have h149 : (Det (.int .i64 (j : Int))) (uF 1) W := hU.2.1
        clear hU
        simp only [puts, Act.put, List.setIfInBounds_toArray, List.set_cons_zero, List.set_cons_succ] at hF
        generalize uF 0 = x148 at h148 hF
        generalize uF 1 = x149 at h149 hF
        obtain rfl : x148 = (.int .i64 (j : Int)) := h148
        obtain rfl : x149 = (.int .i64 (j : Int)) := h149
        subst hF
        go_wp2_with (fail)
        exact ⟨rfl, rfl, (Below.refl _ _), rfl⟩
      · intro uF W hC' hU aF hF
        have hC : Below W'.heap.size W' W := hC'
        clear hC'
        have h150 : (Det (.bool false)) (uF 2) W := hU.1
        clear hU
        simp only [puts, Act.put, List.setIfInBounds_toArray, List.set_cons_zero, List.set_cons_succ] at hF
        generalize uF 2 = x150 at h150 hF
        obtain rfl : x150 = (.bool false) := h150
        subst hF
        go_wp2_with (fail)
        exact ⟨rfl, rfl, (Below.refl _ _), rfl⟩
      · intro uF W hC' hU aF hF
        have hC : Below W'.heap.size W' W := hC'
        clear hC'
        have h151 : (Det (.bool false)) (uF 3) W := hU.1
        clear hU
        simp only [puts, Act.put, List.setIfInBounds_toArray, List.set_cons_zero, List.set_cons_succ] at hF
        generalize uF 3 = x151 at h151 hF
        obtain rfl : x151 = (.bool false) := h151
        subst hF
        have d_g19 : W.cell? ⟨g19, 0, none⟩ = some (.int .i64 (j : Int)) := by rw [(HBK.out.below hC HBK.out.lt).cell]; rfl
        go_wp2_with (fail)
        exact ⟨rfl, rfl, (Below.refl _ _), rfl⟩
      · intro uF W hC' hU aF hF
        have hC : Below W'.heap.size W' W := hC'
        clear hC'
        have h151 : (Det (.bool false)) (uF 3) W := hU.1
        clear hU
        simp only [puts, Act.put, List.setIfInBounds_toArray, List.set_cons_zero, List.set_cons_succ] at hF
        generalize uF 3 = x151 at h151 hF
        obtain rfl : x151 = (.bool false) := h151
        subst hF
        have d_g9 : W.cell? ⟨g9, 0, none⟩ = some (.pointer (some ⟨gm, 0, none⟩)) := by rw [(HBG.out.below hC HBG.out.lt).cell]; rfl
        go_wp2_with (fail)
        exact ⟨rfl, rfl, (Below.refl _ _), rfl⟩
      · intro uF W hC' hU aF hF
        have hC : Below W'.heap.size W' W := hC'
        clear hC'
        have h153 : (Det (.pointer (some ⟨gm, 0, none⟩))) (uF 5) W := hU.1
        have h151 : (Det (.bool false)) (uF 3) W := hU.2.1
        clear hU
        simp only [puts, Act.put, List.setIfInBounds_toArray, List.set_cons_zero, List.set_cons_succ] at hF
        generalize uF 5 = x153 at h153 hF
        generalize uF 3 = x151 at h151 hF
        obtain rfl : x153 = (.pointer (some ⟨gm, 0, none⟩)) := h153
        obtain rfl : x151 = (.bool false) := h151
        subst hF
        go_wp2_with (fail)
        exact ⟨rfl, rfl, (Below.refl _ _), rfl⟩
      · intro uF W hC' hU aF hF
        have hC : Below W'.heap.size W' W := hC'
        clear hC'
        have h154 : (Det (.pointer (some ⟨gm, 0, none⟩))) (uF 6) W := hU.1
        have h151 : (Det (.bool false)) (uF 3) W := hU.2.1
        clear hU
        simp only [puts, Act.put, List.setIfInBounds_toArray, List.set_cons_zero, List.set_cons_succ] at hF
        generalize uF 6 = x154 at h154 hF
        generalize uF 3 = x151 at h151 hF
        obtain rfl : x154 = (.pointer (some ⟨gm, 0, none⟩)) := h154
        obtain rfl : x151 = (.bool false) := h151
        subst hF
        go_wp2_with (fail)
        exact ⟨rfl, rfl, (Below.refl _ _), rfl⟩
      · intro uF W hC' hU aF hF
        have hC : Below W'.heap.size W' W := hC'
        clear hC'
        have h155 : (Det (.pointer (some ⟨gm, 1, none⟩))) (uF 7) W := hU.1
        have h151 : (Det (.bool false)) (uF 3) W := hU.2.1
        clear hU
        simp only [puts, Act.put, List.setIfInBounds_toArray, List.set_cons_zero, List.set_cons_succ] at hF
        generalize uF 7 = x155 at h155 hF
        generalize uF 3 = x151 at h151 hF
        obtain rfl : x155 = (.pointer (some ⟨gm, 1, none⟩)) := h155
        obtain rfl : x151 = (.bool false) := h151
        subst hF
        have d_l : W.cell? ⟨gm, 1, none⟩ = some (.slice (some ⟨gl, 0, none⟩) L cL) := by rw [(HM1.out.below hC HM1.out.lt).cell]; rfl
        go_wp2_with (fail)
        exact ⟨rfl, rfl, (Below.refl _ _), rfl⟩
      · intro uF W hC' hU aF hF
        have hC : Below W'.heap.size W' W := hC'
        clear hC'
        have h156 : (Det (.slice (some ⟨gl, 0, none⟩) L cL)) (uF 8) W := hU.1
        have h151 : (Det (.bool false)) (uF 3) W := hU.2.1
        clear hU
        simp only [puts, Act.put, List.setIfInBounds_toArray, List.set_cons_zero, List.set_cons_succ] at hF
        generalize uF 8 = x156 at h156 hF
        generalize uF 3 = x151 at h151 hF
        obtain rfl : x156 = (.slice (some ⟨gl, 0, none⟩) L cL) := h156
        obtain rfl : x151 = (.bool false) := h151
        subst hF
        go_wp2_with (fail)
        exact ⟨rfl, rfl, (Below.refl _ _), rfl⟩
      · intro uF W hC' hU aF hF
        have hC : Below W'.heap.size W' W := hC'
        clear hC'
        have h152 : (Det (.int .i64 (j : Int))) (uF 4) W := hU.1
        have h157 : (Det (.int .i64 (L : Int))) (uF 9) W := hU.2.1
        have h151 : (Det (.bool false)) (uF 3) W := hU.2.2.1
        clear hU
        simp only [puts, Act.put, List.setIfInBounds_toArray, List.set_cons_zero, List.set_cons_succ] at hF
        generalize uF 4 = x152 at h152 hF
        generalize uF 9 = x157 at h157 hF
        generalize uF 3 = x151 at h151 hF
        obtain rfl : x152 = (.int .i64 (j : Int)) := h152
        obtain rfl : x157 = (.int .i64 (L : Int)) := h157
        obtain rfl : x151 = (.bool false) := h151
        subst hF
        go_wp2_with (fail)
        exact ⟨rfl, rfl, (Below.refl _ _), rfl⟩
      · intro uF W hC' hU aF hF
        have hC : Below W'.heap.size W' W := hC'
        clear hC'
        have h151 : (Det (.bool false)) (uF 3) W := hU.1
        have h158 : (Det (.bool false)) (uF 10) W := hU.2.1
        clear hU
        simp only [puts, Act.put, List.setIfInBounds_toArray, List.set_cons_zero, List.set_cons_succ] at hF
        generalize uF 3 = x151 at h151 hF
        generalize uF 10 = x158 at h158 hF
        obtain rfl : x151 = (.bool false) := h151
        obtain rfl : x158 = (.bool false) := h158
        subst hF
        go_wp2_with (fail)
        exact ⟨rfl, rfl, (Below.refl _ _), rfl⟩
      · intro uF W hC' hU aF hF
        have hC : Below W'.heap.size W' W := hC'
        clear hC'
        have h159 : (Det (.bool false)) (uF 11) W := hU.1
        clear hU
        simp only [puts, Act.put, List.setIfInBounds_toArray, List.set_cons_zero, List.set_cons_succ] at hF
        generalize uF 11 = x159 at h159 hF
        obtain rfl : x159 = (.bool false) := h159
        subst hF
        go_wp2_with (fail)
        exact ⟨rfl, rfl, (Below.refl _ _), rfl⟩
      · intro uF W hC' hU aF hF
        have hC : Below W'.heap.size W' W := hC'
        clear hC'
        have h160 : (Det (.bool false)) (uF 12) W := hU.1
        clear hU
        simp only [puts, Act.put, List.setIfInBounds_toArray, List.set_cons_zero, List.set_cons_succ] at hF
        generalize uF 12 = x160 at h160 hF
        obtain rfl : x160 = (.bool false) := h160
        subst hF
        go_wp2_with (((with_reducible show wpList _ _ _ (Oper.mk _ (Op.load _ _) _ _ _ _ :: _) _ _); refine wpList_load_whole (by rfl) 48 (.tmp 21) rfl g21 rfl (wrb p.i p.n p.k p.b A5 p.m c5).toArray aggW rfl _ (HB21.out.below hC HB21.out.lt) ?_))
        exact ⟨rfl, rfl, (Below.refl _ _), rfl⟩
      · intro uF W hC' hU aF hF
        have hC : Below W'.heap.size W' W := hC'
        clear hC'
        have h160 : (Det (.bool false)) (uF 12) W := hU.1
        clear hU
        simp only [puts, Act.put, List.setIfInBounds_toArray, List.set_cons_zero, List.set_cons_succ] at hF
        generalize uF 12 = x160 at h160 hF
        obtain rfl : x160 = (.bool false) := h160
        subst hF
        have d_g9 : W.cell? ⟨g9, 0, none⟩ = some (.pointer (some ⟨gm, 0, none⟩)) := by rw [(HBG.out.below hC HBG.out.lt).cell]; rfl
        go_wp2_with (fail)
        exact ⟨rfl, rfl, (Below.refl _ _), rfl⟩
      · intro uF W hC' hU aF hF
        have hC : Below W'.heap.size W' W := hC'
        clear hC'
        have h162 : (Det (.pointer (some ⟨gm, 0, none⟩))) (uF 14) W := hU.1
        have h160 : (Det (.bool false)) (uF 12) W := hU.2.1
        clear hU
        simp only [puts, Act.put, List.setIfInBounds_toArray, List.set_cons_zero, List.set_cons_succ] at hF
        generalize uF 14 = x162 at h162 hF
        generalize uF 12 = x160 at h160 hF
        obtain rfl : x162 = (.pointer (some ⟨gm, 0, none⟩)) := h162
        obtain rfl : x160 = (.bool false) := h160
        subst hF
        go_wp2_with (fail)
        exact ⟨rfl, rfl, (Below.refl _ _), rfl⟩
      · intro uF W hC' hU aF hF
        have hC : Below W'.heap.size W' W := hC'
        clear hC'
        have h163 : (Det (.pointer (some ⟨gm, 0, none⟩))) (uF 15) W := hU.1
        have h160 : (Det (.bool false)) (uF 12) W := hU.2.1
        clear hU
        simp only [puts, Act.put, List.setIfInBounds_toArray, List.set_cons_zero, List.set_cons_succ] at hF
        generalize uF 15 = x163 at h163 hF
        generalize uF 12 = x160 at h160 hF
        obtain rfl : x163 = (.pointer (some ⟨gm, 0, none⟩)) := h163
        obtain rfl : x160 = (.bool false) := h160
        subst hF
        go_wp2_with (fail)
        exact ⟨rfl, rfl, (Below.refl _ _), rfl⟩
      · intro uF W hC' hU aF hF
        have hC : Below W'.heap.size W' W := hC'
        clear hC'
        have h164 : (Det (.pointer (some ⟨gm, 1, none⟩))) (uF 16) W := hU.1
        have h160 : (Det (.bool false)) (uF 12) W := hU.2.1
        clear hU
        simp only [puts, Act.put, List.setIfInBounds_toArray, List.set_cons_zero, List.set_cons_succ] at hF
        generalize uF 16 = x164 at h164 hF
        generalize uF 12 = x160 at h160 hF
        obtain rfl : x164 = (.pointer (some ⟨gm, 1, none⟩)) := h164
        obtain rfl : x160 = (.bool false) := h160
        subst hF
        have d_l : W.cell? ⟨gm, 1, none⟩ = some (.slice (some ⟨gl, 0, none⟩) L cL) := by rw [(HM1.out.below hC HM1.out.lt).cell]; rfl
        go_wp2_with (fail)
        exact ⟨rfl, rfl, (Below.refl _ _), rfl⟩
      · intro uF W hC' hU aF hF
        have hC : Below W'.heap.size W' W := hC'
        clear hC'
        have h160 : (Det (.bool false)) (uF 12) W := hU.1
        clear hU
        simp only [puts, Act.put, List.setIfInBounds_toArray, List.set_cons_zero, List.set_cons_succ] at hF
        generalize uF 12 = x160 at h160 hF
        obtain rfl : x160 = (.bool false) := h160
        subst hF
        have d_g19 : W.cell? ⟨g19, 0, none⟩ = some (.int .i64 (j : Int)) := by rw [(HBK.out.below hC HBK.out.lt).cell]; rfl
        go_wp2_with (fail)
        exact ⟨rfl, rfl, (Below.refl _ _), rfl⟩
      · intro uF W hC' hU aF hF
        have hC : Below W'.heap.size W' W := hC'
        clear hC'
        have h165 : (Det (.slice (some ⟨gl, 0, none⟩) L cL)) (uF 17) W := hU.1
        have h166 : (Det (.int .i64 (j : Int))) (uF 18) W := hU.2.1
        have h160 : (Det (.bool false)) (uF 12) W := hU.2.2.1
        clear hU
        simp only [puts, Act.put, List.setIfInBounds_toArray, List.set_cons_zero, List.set_cons_succ] at hF
        generalize uF 17 = x165 at h165 hF
        generalize uF 18 = x166 at h166 hF
        generalize uF 12 = x160 at h160 hF
        obtain rfl : x165 = (.slice (some ⟨gl, 0, none⟩) L cL) := h165
        obtain rfl : x166 = (.int .i64 (j : Int)) := h166
        obtain rfl : x160 = (.bool false) := h160
        subst hF
        go_wp2_with (fail)
        exact ⟨rfl, rfl, (Below.refl _ _), rfl⟩
      · intro uF W hC' hU aF hF
        have hC : Below W'.heap.size W' W := hC'
        clear hC'
        have h167 : (Det (.pointer (some ⟨gl, j * 13, none⟩))) (uF 19) W := hU.1
        have h160 : (Det (.bool false)) (uF 12) W := hU.2.1
        clear hU
        simp only [puts, Act.put, List.setIfInBounds_toArray, List.set_cons_zero, List.set_cons_succ] at hF
        generalize uF 19 = x167 at h167 hF
        generalize uF 12 = x160 at h160 hF
        obtain rfl : x167 = (.pointer (some ⟨gl, j * 13, none⟩)) := h167
        obtain rfl : x160 = (.bool false) := h160
        subst hF
        go_wp2_with (((with_reducible show wpList _ _ _ (Oper.mk _ (Op.load _ _) _ _ _ _ :: _) _ _); refine wpList_load_agg (by rfl) 68 (.tmp 167) rfl gl (j * 13) rfl (wrb p.i p.n p.k p.b p.A2 p.m p.c2).toArray aggR rfl (fun t u hu => (hC.cell (p := ⟨gl, j * 13 + t, none⟩) hgl).trans (HCELL.out t u (by simpa [Wt.row2] using hu))) ?_))
        exact ⟨rfl, rfl, (Below.refl _ _), rfl⟩
      · intro uF W hC' hU aF hF
        have hC : Below W'.heap.size W' W := hC'
        clear hC'
        have h161 : (Det (.agg (wrb p.i p.n p.k p.b A5 p.m c5).toArray)) (uF 13) W := hU.1
        have h168 : (Det (.agg (wrb p.i p.n p.k p.b p.A2 p.m p.c2).toArray)) (uF 20) W := hU.2.1
        have h160 : (Det (.bool false)) (uF 12) W := hU.2.2.1
        clear hU
        simp only [puts, Act.put, List.setIfInBounds_toArray, List.set_cons_zero, List.set_cons_succ] at hF
        generalize uF 13 = x161 at h161 hF
        generalize uF 20 = x168 at h168 hF
        generalize uF 12 = x160 at h160 hF
        obtain rfl : x161 = (.agg (wrb p.i p.n p.k p.b A5 p.m c5).toArray) := h161
        obtain rfl : x168 = (.agg (wrb p.i p.n p.k p.b p.A2 p.m p.c2).toArray) := h168
        obtain rfl : x160 = (.bool false) := h160
        subst hF
        go_wp2_with ((go_at_call 26; refine (sameW p.i p.n p.k p.b (OwB.below HX3.out hC).sl (HDR.out.below (hC.mono hzwW)) (Nat.le_refl _) (Nat.le_trans hzwW hC.size)).mono ?_; rintro e W1 ⟨rfl, hb⟩))
        exact ⟨rfl, rfl, hb, rfl⟩
      · intro uF W hC' hU aF hF
        have hC : Below W'.heap.size W' W := hC'
        clear hC'
        have h169 : (Det (.bool true)) (uF 21) W := hU.1
        have h160 : (Det (.bool false)) (uF 12) W := hU.2.1
        clear hU
        simp only [puts, Act.put, List.setIfInBounds_toArray, List.set_cons_zero, List.set_cons_succ] at hF
        generalize uF 21 = x169 at h169 hF
        generalize uF 12 = x160 at h160 hF
        obtain rfl : x169 = (.bool true) := h169
        obtain rfl : x160 = (.bool false) := h160
        subst hF
        go_wp2_with (fail)
        exact ⟨rfl, rfl, (Below.refl _ _), rfl⟩
      · intro uF W hC' hU aF hF
        have hC : Below W'.heap.size W' W := hC'
        clear hC'
        have h160 : (Det (.bool false)) (uF 12) W := hU.1
        have h170 : (Det (.bool false)) (uF 22) W := hU.2.1
        clear hU
        simp only [puts, Act.put, List.setIfInBounds_toArray, List.set_cons_zero, List.set_cons_succ] at hF
        generalize uF 12 = x160 at h160 hF
        generalize uF 22 = x170 at h170 hF
        obtain rfl : x160 = (.bool false) := h160
        obtain rfl : x170 = (.bool false) := h170
        subst hF
        go_wp2_with (fail)
        exact ⟨rfl, rfl, (Below.refl _ _), rfl⟩
    intro uF W5 hC' hU aF hF
    have hCW5 : Below W'.heap.size W' W5 := hC'
    clear hC'
    have h171 : (Det (.bool false)) (uF 23) W5 := hU.2.2.2.2.2.2.2.2.2.2.2.2.2.2.2.2.2.2.2.2.2.2.2.1
    clear hU
    simp only [List.take_succ_cons, List.take_zero, puts, Act.put, List.setIfInBounds_toArray, List.set_cons_zero, List.set_cons_succ] at hF
    generalize uF 0 = x148 at hF
    generalize uF 1 = x149 at hF
    generalize uF 2 = x150 at hF
    generalize uF 3 = x151 at hF
    generalize uF 4 = x152 at hF
    generalize uF 5 = x153 at hF
    generalize uF 6 = x154 at hF
    generalize uF 7 = x155 at hF
    generalize uF 8 = x156 at hF
    generalize uF 9 = x157 at hF
    generalize uF 10 = x158 at hF
    generalize uF 11 = x159 at hF
    generalize uF 12 = x160 at hF
    generalize uF 13 = x161 at hF
    generalize uF 14 = x162 at hF
    generalize uF 15 = x163 at hF
    generalize uF 16 = x164 at hF
    generalize uF 17 = x165 at hF
    generalize uF 18 = x166 at hF
    generalize uF 19 = x167 at hF
    generalize uF 20 = x168 at hF
    generalize uF 21 = x169 at hF
    generalize uF 22 = x170 at hF
    generalize uF 23 = x171 at h171 hF
    obtain rfl : x171 = (.bool false) := h171
    subst hF
    simp only [List.drop_succ_cons, List.drop_zero]
    refine wpListIn_of (free_rd l') (fun ⟨_, _, h⟩ => h) rfl ?_
    refine wpList_nil ?_
    refine HKB.out _ _ ?_
    gi_wp2
    refine HKA.out _ _ ?_
    have s5 := HSX.out.on hCW5
    have x5 := OwB.below HX3.out hCW5
    have k5 : Kept O' O' W' W5 := Kept.below hCW5
    have b215 := HB21.out.below hCW5 HB21.out.lt
    have dS : W5.cell? ⟨g21, 6, none⟩ = some (.slice A5 p.m c5) := by rw [b215.cell]; rfl
    have HS5 := Lib.hid s5
    have HX5 := Lib.hid x5
    have HK5' := Lib.hid k5
    clear s5 x5 k5 b215 hCW5 HKA HKB
    refine wpIn_seq_k fun KC hKC => ?_
    have HKC := Lib.hid hKC
    clear hKC
    refine wpIn_region_of (free_rd l') rfl (fun ⟨_, _, h⟩ => h) ?_
    go_wp2_with (go_at_call 11; refine (over_c HX5.out (by omega)).mono ?_; rintro e V2 ⟨rfl, hg2⟩)
    refine HKC.out _ _ ?_
    have hA : ∀ g, wrote A5 c5 = some g → O' g ∧ g ≠ g19 := fun g e => by
      have hg := HX4.out g e
      rcases Row.wrote_lt HX5.out with h1 | ⟨g', _, h1, hgb, _⟩
      · rw [h1] at e; cases e
      · rw [h1] at e; cases e; exact ⟨hg, by omega⟩
    have s2 := HS5.out.over hg2 hA
    have kp2 : Kept O' O' W' V2 := HK5'.out.trans (by
      cases hw : wrote A5 c5 with
      | none => rw [hw] at hg2; exact Kept.grownNone hg2
      | some g => rw [hw] at hg2; exact Kept.grown hg2 (hA g hw).1)
    have k192 : V2.cell? ⟨g19, 0, none⟩ = some (.int .i64 (j : Int)) := by rw [s2.b19.cell]; rfl
    have f192 := s2.b19.frozen 0
    obtain ⟨V3, hV3⟩ : ∃ V3, V3 = V2.setCell ⟨g19, 0, none⟩ (.int .i64 ((j : Int) + 1)) := ⟨_, rfl⟩
    have s3 : RI u1 g19 (j + 1) O' V3 := by rw [hV3]; exact s2.set (j + 1)
    have kp3 : Kept O' O' W' V3 := by rw [hV3]; exact kp2.trans (Kept.setCell s2.o19 0 _)
    have k193 : V3.cell? ⟨g19, 0, none⟩ = some (.int .i64 ((j : Int) + 1)) := by rw [s3.b19.cell]; rfl
    have k53 : V3.cell? ⟨g5, 0, none⟩ = some (.int .i64 (mm : Int)) := by rw [(HP1'.out.below s3.bel).b5.cell]; rfl
    rw [hV3] at k193 k53
    have HS3 := Lib.hid s3
    have HKP3 := Lib.hid kp3
    have HV3 := Lib.hid hV3
    clear s2 s3 kp2 kp3 hV3 hg2 hA dS HS5 HX5 HK5' HKC
    by_cases heq : j + 1 = mm
    · have hei : (j : Int) + 1 = (mm : Int) := by omega
      have e9 := HV3.out
      rw [hei] at k193 k53 e9
      have HV9 := Lib.hid e9
      clear e9
      gi_wp2
      rw [← HV9.out]
      exact ⟨HKP3.out.from_ _, rfl, ⟨O', by rw [HX1.out]; exact HS3.out⟩, by rw [HX1.out]; exact heq⟩
    · have hei : ¬ (j : Int) + 1 = (mm : Int) := by omega
      clear heq
      have hj5 : (j : Int) + 1 ≤ 9 := by omega
      have hbe : ((j : Int) + 1 == (mm : Int)) = false := by simpa using hei
      have hbd : decide ((j : Int) + 1 = (mm : Int)) = false := by simpa using hei
      have HEI := Lib.hid hei
      clear hei
      refine wpIn_seq_k fun KD hKD => ?_
      have HKD := Lib.hid hKD
      clear hKD
      gi_wp2
      refine HKD.out _ _ ?_
      refine wpIn_seq_k fun KE hKE => ?_
      have HKE := Lib.hid hKE
      clear hKE
      gi_wp2
      refine HKE.out _ _ ?_
      refine wpIn_cond_false rfl ?_
      refine wpIn_skip ?_
      rw [← HV3.out]
      exact ⟨O', HKP3.out, by rw [HX1.out]; exact HS3.out, by rw [HX1.out]; have := HEI.out; omega⟩
  · rintro E O' xs W' hE hxs ⟨sx, hltm⟩ hKE
    rw [hxs] at sx hltm
    have hP := HP1'.out.below sx.bel
    subst ha0
    exact ⟨E, ps'.length, g19, _, _, _, _, _, _, _, _, _, _, _, _, _, _, _, _, _, _, _, _, _, _, _, _, _, _, _, _, _, _, _, _, _, _, _, _, _, _, _, _, _, _, _, _, _, _, _, _, _, _, _, _, _, _, _, _, _, _, _, _, _, _, _, _, _, _, _, _, _, _, _, _, _, _, _, _, _, _, _, _, _, _, _, _, _, _, _, _, _, _, _, _, _, _, _, _, _, _, _, _, _, _, _, _, _, _, _, _, _, _, _, _, _, _, _, _, _, _, _, _, _, _, _, _, _, _, _, _, _, _, _, _, _, _, _, _, _, _, _, _, _, _, _, _, _, _, _, _, _, _, _, _, _, _, _, _, _, _, _, _, _, _, _, _, _, _, _, _, _, _, _, _, _, _, _, _, _, _, _, _, _, _, _, _, _, _, _, _, _, _, _, _, by omega, sx.b19, ⟨hP.b5, hP.b6, hP.b9, hP.q, hP.r, hP.dq, hP.dr, hP.ms.cons (by omega) (fun h => by have := HDS.out E h; omega) hKE⟩, HW1'.out.trans (sx.bel.mono hzu1), rfl⟩
  · rintro E cx pre W' hE hpre ⟨rfl, ⟨O', sx⟩, hpl⟩ hKE
    rw [hpl] at sx hpre
    have hP := HP1'.out.below sx.bel
    subst ha0
    have hms := hP.ms.cons (D := E) (by omega) (fun h => by have := HDS.out E h; omega) hKE
    have HPP := Lib.hid hP
    have HSX := Lib.hid sx
    have HMS := Lib.hid hms
    clear hP sx hms
    go_wp2_with fail
    exact ⟨E, mm, g19, _, _, _, _, _, _, _, _, _, _, _, _, _, _, _, _, _, _, _, _, _, _, _, _, _, _, _, _, _, _, _, _, _, _, _, _, _, _, _, _, _, _, _, _, _, _, _, _, _, _, _, _, _, _, _, _, _, _, _, _, _, _, _, _, _, _, _, _, _, _, _, _, _, _, _, _, _, _, _, _, _, _, _, _, _, _, _, _, _, _, _, _, _, _, _, _, _, _, _, _, _, _, _, _, _, _, _, _, _, _, _, _, _, _, _, _, _, _, _, _, _, _, _, _, _, _, _, _, _, _, _, _, _, _, _, _, _, _, _, _, _, _, _, _, _, _, _, _, _, _, _, _, _, _, _, _, _, _, _, _, _, _, _, _, _, _, _, _, _, _, _, _, _, _, _, _, _, _, _, _, _, _, _, _, _, _, _, _, _, _, _, _, by omega, HSX.out.b19, ⟨HPP.out.b5, HPP.out.b6, HPP.out.b9, HPP.out.q, HPP.out.r, HPP.out.dq, HPP.out.dr, HMS.out⟩, HW1'.out.trans (HSX.out.bel.mono hzu1), rfl⟩

set_option maxHeartbeats 8000000 in
theorem walk (a0 a2 : Int) (v1 : Value) (w : World) (w0 : (Lit.int .i64 a0).wf = true) (w2 : (Lit.int .i64 a2).wf = true) (R1 : Rds w (.slice (.cons (.int .i64) (.cons (.int .i64) (.cons (.int .i64) (.cons (.slice (.int .u8) 1 1) .nil)))) 4 48) [v1]) :
    Calls Try.prog 6 #[.int .i64 a0, v1, .int .i64 a2] w fun e w' => e = .returned (.bool true) ∧ Below w.heap.size w w' := by
  obtain ⟨A, N, c, ops, rfl, hS⟩ := scriptW R1
  clear R1
  have hN1 : N ≤ 4398046511104 := hS.2.1
  have hc1 : c ≤ 4398046511104 := hS.2.2.1
  have hNc := hS.2.2.2.2.2.1
  obtain ⟨g5, hg5⟩ : ∃ g, g = w.heap.size := ⟨_, rfl⟩
  obtain ⟨g6, hg6⟩ : ∃ g, g = w.heap.size + 1 := ⟨_, rfl⟩
  obtain ⟨v, hv⟩ : ∃ v, v = (w.alloc (.cells #[.int .i64 a2] 3)).alloc (.cells #[.bool false] 4) := ⟨_, rfl⟩
  have b5 : Blk v g5 3 #[.int .i64 a2] := by rw [hv, hg5]; exact (Blk.new _ _ _).alloc _
  have b6 : Blk v g6 4 #[.bool false] := by
    have := Blk.new (w.alloc (.cells #[.int .i64 a2] 3)) 4 #[.bool false]
    rw [World.size_alloc] at this
    rw [hv, hg6]; exact this
  have hbv : Below w.heap.size w v := by rw [hv]; exact ((Below.refl _ _).alloc (Nat.le_refl _) _).alloc (by simp) _
  have hz := hbv.size
  have hg6v := b6.lt
  have hg56 : g5 < g6 ∧ w.heap.size ≤ g5 := by omega
  have HS := Lib.hid hS
  have HV := Lib.hid hv
  have HG5 := Lib.hid hg5
  have HG6 := Lib.hid hg6
  have HB5 := Lib.hid b5
  have HB6 := Lib.hid b6
  clear hS hv hg5 hg6 b5 b6
  refine calls_of_wp_marks Try.func6 rfl ?_
  simp only [Try.ntmps6, List.size_toArray, List.length_cons, List.length_nil, Nat.reduceAdd, Nat.reduceSub, Array.replicate_succ, Array.replicate_zero, List.push_toArray, List.append_toArray, List.nil_append, List.cons_append]
  go_wp2_with (go_at_call 14; rw [← HV.out, ← HG6.out, ← HG5.out]; refine (alive_c v).mono ?_; rintro e v2 ⟨rfl, hb2⟩)
  have hv2 : Below w.heap.size w v2 := hbv.trans (hb2.mono hz)
  have hz2 := hb2.size
  go_at_call 20
  refine (long9_c (HS.out.below hv2)).mono ?_
  rintro e v3 ⟨r, rfl, hb3⟩
  have hz3 := hb3.size
  have hv3 : Below w.heap.size w v3 := hv2.trans (hb3.mono (by omega))
  have hv23 : Below v.heap.size v v3 := hb2.trans (hb3.mono hz2)
  have HB63 := Lib.hid (HB6.out.below hv23 HB6.out.lt)
  have HB53 := Lib.hid (HB5.out.below hv23 HB5.out.lt)
  clear hb2 hb3
  cases r with
  | true =>
    have d6 : v3.cell? ⟨g6, 0, none⟩ = some (.bool false) := by rw [HB63.out.cell]; rfl
    have f6 := HB63.out.frozen 0
    go_wp2_with fail
    have hb6' : Blk (v3.setCell ⟨g6, 0, none⟩ (.bool true)) g6 4 #[.bool true] := by simpa using HB63.out.set_ 0 (.bool true)
    exact ⟨_, res_boolM rfl _ g6 4 true Try.underlying4 rfl hb6', rfl, hv3.setCell (p := ⟨g6, 0, none⟩) (by show w.heap.size ≤ g6; omega) _⟩
  | false =>
    by_cases hb : a0 < 1 ∨ 8 < a0
    · have d6 : v3.cell? ⟨g6, 0, none⟩ = some (.bool false) := by rw [HB63.out.cell]; rfl
      have f6 := HB63.out.frozen 0
      have HBB := Lib.hid hb
      by_cases h1 : a0 < 1
      · clear hb
        go_wp2_with (first
          | (go_at_call 15; refine (new_no a0 HBB.out v3).mono ?_; rintro e w' ⟨rfl, rfl⟩)
          | (go_at_call 21; refine (is_err 1 1 rfl true rfl _).mono ?_; rintro e w' ⟨rfl, rfl⟩))
        have hb6' : Blk (v3.setCell ⟨g6, 0, none⟩ (.bool true)) g6 4 #[.bool true] := by simpa using HB63.out.set_ 0 (.bool true)
        exact ⟨_, res_boolM rfl _ g6 4 true Try.underlying4 rfl hb6', rfl, hv3.setCell (p := ⟨g6, 0, none⟩) (by show w.heap.size ≤ g6; omega) _⟩
      · have h2 : 8 < a0 := by omega
        clear hb
        go_wp2_with (first
          | (go_at_call 15; refine (new_no a0 HBB.out v3).mono ?_; rintro e w' ⟨rfl, rfl⟩)
          | (go_at_call 21; refine (is_err 1 1 rfl true rfl _).mono ?_; rintro e w' ⟨rfl, rfl⟩))
        have hb6' : Blk (v3.setCell ⟨g6, 0, none⟩ (.bool true)) g6 4 #[.bool true] := by simpa using HB63.out.set_ 0 (.bool true)
        exact ⟨_, res_boolM rfl _ g6 4 true Try.underlying4 rfl hb6', rfl, hv3.setCell (p := ⟨g6, 0, none⟩) (by show w.heap.size ≤ g6; omega) _⟩
    · obtain ⟨n, rfl⟩ : ∃ n : Nat, a0 = (n : Int) := ⟨a0.toNat, by omega⟩
      have hn1 : 1 ≤ n := by omega
      have hn8 : n ≤ 8 := by omega
      have hi1 : ¬ (n : Int) < 1 := by omega
      have hi8 : ¬ (8 : Int) < (n : Int) := by omega
      obtain ⟨u, hu⟩ : ∃ u : Nat, IntKind.u64.wrap a2 = (u : Int) := ⟨(IntKind.u64.wrap a2).toNat, by rw [Int.toNat_of_nonneg (by rw [wrap_u64]; omega)]⟩
      obtain ⟨r9, hr9⟩ : ∃ r : Nat, r = u % 9 := ⟨_, rfl⟩
      have htm : ((u : Int)).tmod 9 = (r9 : Int) := by rw [Int.tmod_eq_emod_of_nonneg (by omega)]; omega
      have hmd : (u : Int) % 9 = (r9 : Int) := by omega
      have hr0 : (0 : Int) ≤ (r9 : Int) := by omega
      have hr8 : (r9 : Int) ≤ 8 := by omega
      obtain ⟨mm, hmm⟩ : ∃ mm : Nat, mm = 1 + r9 := ⟨_, rfl⟩
      have hm1 : (1 : Int) + (r9 : Int) = (mm : Int) := by omega
      have hmb : 1 ≤ mm ∧ mm ≤ 9 := by omega
      clear hr9 hmm hb
      go_wp2_with (first
        | (go_at_call 15; refine (new_c n hn1 hn8 v3).mono ?_; rintro e v4 ⟨gq, rfl, hq4, hb4⟩; have hz4 := hb4.size; have b54 := HB53.out.below hb4 HB53.out.lt; have b64 := HB63.out.below hb4 HB63.out.lt; have d54 : v4.cell? ⟨g5, 0, none⟩ = some (.int .i64 a2) := (by rw [b54.cell]; rfl); have f54 := b54.frozen 0; obtain ⟨v5, hv5⟩ : ∃ x, x = v4.setCell ⟨g5, 0, none⟩ (.int .i64 (mm : Int)) := ⟨_, rfl⟩; have HV5 := Lib.hid hv5; have HB54 := Lib.hid b54; have HB64 := Lib.hid b64; have HQ4 := Lib.hid hq4; have HB34 := Lib.hid hb4; clear hq4 hv5 b54 b64 hb4)
        | ((with_reducible show wpList _ _ _ (Oper.mk (some 55) (Op.build _ _) _ _ _ _ :: _) _ _); rw [← HV5.out]; refine wpList_build (by rfl) 63 _ rfl #[(0, .int .i64 (n : Int))] (by simp only [List.map_toArray, List.map_cons, List.map_nil]; rfl) _ (buildRQ _ _) ?_))
      obtain ⟨gm, hgm⟩ : ∃ g, g = v5.heap.size := ⟨_, rfl⟩
      obtain ⟨g9, hg9⟩ : ∃ g, g = v5.heap.size + 1 := ⟨_, rfl⟩
      obtain ⟨v6, hv6⟩ : ∃ x, x = (v5.alloc (.cells #[.int .i64 (n : Int), .slice none 0 0] 63)).alloc (.cells #[.pointer (some ⟨v5.heap.size, 0, none⟩)] 60) := ⟨_, rfl⟩
      have hz5 : v5.heap.size = v4.heap.size := by rw [HV5.out]; simp
      have hP6 : Pl w.heap.size g5 g6 gq g9 gm n mm [] [] [] v6 := by
        have c5 : Blk v5 g5 3 #[.int .i64 (mm : Int)] := by rw [HV5.out]; simpa using HB54.out.set_ 0 (.int .i64 (mm : Int))
        have c6 : Blk v5 g6 4 #[.bool false] := by rw [HV5.out]; exact HB64.out.far (by show g6 ≠ g5; omega) _
        have q5 : Qs v5 w.heap.size gq n [] := by rw [HV5.out]; exact ((HQ4.out).gone HB54.out (by decide) (by decide) (grownBy_setCell _ g5 0 _)).low (by omega)
        have hb56 : Below v5.heap.size v5 v6 := by rw [hv6]; exact ((Below.refl _ _).alloc (Nat.le_refl _) _).alloc (by simp) _
        have cm : Blk v6 gm 63 #[.int .i64 (n : Int), .slice none 0 0] := by rw [hv6, hgm]; exact (Blk.new _ _ _).alloc _
        have c9 : Blk v6 g9 60 #[.pointer (some ⟨gm, 0, none⟩)] := by
          have := Blk.new (v5.alloc (.cells #[.int .i64 (n : Int), .slice none 0 0] 63)) 60 #[.pointer (some ⟨v5.heap.size, 0, none⟩)]
          rw [World.size_alloc] at this
          rw [hv6, hg9, hgm]; exact this
        exact ⟨c5.below hb56 c5.lt, c6.below hb56 c6.lt, c9, q5.below hb56, ⟨none, 0, cm, Row.nil _ _ _ _ _, by omega, fun r hr => by simp at hr, by simp, hn8⟩, fun p hp => by simp at hp, fun p hp => by simp at hp, ⟨List.nodup_nil, fun D hD => by simp at hD⟩⟩
      have hb6w : Below w.heap.size w v6 := by
        rw [hv6, HV5.out]
        exact ((((hv3.trans (HB34.out.mono (by omega))).setCell (p := ⟨g5, 0, none⟩) (by show w.heap.size ≤ g5; omega) _).alloc (by simp; omega) _).alloc (by simp; omega) _)
      rw [← hv6, ← hg9]
      rename_i KL hKL
      have HKL := Lib.hid hKL
      have HP6 := Lib.hid hP6
      have HB6W := Lib.hid hb6w
      have hgmw : w.heap.size ≤ gm ∧ w.heap.size ≤ g6 := by omega
      clear hKL hP6 hb6w hv6 hgm hg9 d54 f54 hz5 HV5 HQ4 HB54 HB64 HB34 htm hmd hm1 hu hr0 hr8 hv2 hv3 hv23 HB63 HB53
      refine wp_loop (InvQ w g5 g6 gq g9 gm n mm A N c) (MuQ N) ?_ ?_
      · exact ⟨0, [], [], _, _, _, _, _, _, _, _, _, _, _, _, _, _, _, _, _, _, _, _, _, _, _, _, _, _, _, _, _, _, _, _, _, _, _, _, _, _, _, _, _, _, _, _, _, _, _, _, _, _, _, _, _, _, _, _, _, _, _, _, _, _, _, _, _, _, _, _, _, _, _, _, _, _, _, _, _, _, _, _, _, _, _, _, _, _, _, _, _, _, _, _, _, _, _, _, _, _, _, _, _, _, _, _, _, _, _, _, _, _, _, _, _, _, _, _, _, _, _, _, _, _, _, _, _, _, _, _, _, _, _, _, _, _, _, _, _, _, _, _, _, _, _, _, _, _, _, _, _, _, _, _, _, _, _, _, _, _, _, _, _, _, _, _, _, _, _, _, _, _, _, _, _, _, _, _, _, _, _, _, _, _, _, _, _, _, _, _, _, _, _, _, _, by omega, HP6.out, HB6W.out, rfl⟩
      rintro a wr hq
      unfold InvQ at hq
      obtain ⟨i, ps, Ds, hq⟩ := hq
      obtain ⟨y0, hq⟩ := hq
      obtain ⟨y1, hq⟩ := hq
      obtain ⟨y2, hq⟩ := hq
      obtain ⟨y3, hq⟩ := hq
      obtain ⟨y4, hq⟩ := hq
      obtain ⟨y10, hq⟩ := hq
      obtain ⟨y11, hq⟩ := hq
      obtain ⟨y12, hq⟩ := hq
      obtain ⟨y13, hq⟩ := hq
      obtain ⟨y14, hq⟩ := hq
      obtain ⟨y15, hq⟩ := hq
      obtain ⟨y16, hq⟩ := hq
      obtain ⟨y17, hq⟩ := hq
      obtain ⟨y18, hq⟩ := hq
      obtain ⟨y19, hq⟩ := hq
      obtain ⟨y20, hq⟩ := hq
      obtain ⟨y21, hq⟩ := hq
      obtain ⟨y22, hq⟩ := hq
      obtain ⟨y23, hq⟩ := hq
      obtain ⟨y24, hq⟩ := hq
      obtain ⟨y25, hq⟩ := hq
      obtain ⟨y26, hq⟩ := hq
      obtain ⟨y27, hq⟩ := hq
      obtain ⟨y28, hq⟩ := hq
      obtain ⟨y29, hq⟩ := hq
      obtain ⟨y30, hq⟩ := hq
      obtain ⟨y31, hq⟩ := hq
      obtain ⟨y32, hq⟩ := hq
      obtain ⟨y33, hq⟩ := hq
      obtain ⟨y34, hq⟩ := hq
      obtain ⟨y35, hq⟩ := hq
      obtain ⟨y36, hq⟩ := hq
      obtain ⟨y37, hq⟩ := hq
      obtain ⟨y38, hq⟩ := hq
      obtain ⟨y39, hq⟩ := hq
      obtain ⟨y40, hq⟩ := hq
      obtain ⟨y41, hq⟩ := hq
      obtain ⟨y42, hq⟩ := hq
      obtain ⟨y43, hq⟩ := hq
      obtain ⟨y44, hq⟩ := hq
      obtain ⟨y45, hq⟩ := hq
      obtain ⟨y46, hq⟩ := hq
      obtain ⟨y47, hq⟩ := hq
      obtain ⟨y48, hq⟩ := hq
      obtain ⟨y49, hq⟩ := hq
      obtain ⟨y50, hq⟩ := hq
      obtain ⟨y51, hq⟩ := hq
      obtain ⟨y52, hq⟩ := hq
      obtain ⟨y53, hq⟩ := hq
      obtain ⟨y54, hq⟩ := hq
      obtain ⟨y55, hq⟩ := hq
      obtain ⟨y56, hq⟩ := hq
      obtain ⟨y60, hq⟩ := hq
      obtain ⟨y61, hq⟩ := hq
      obtain ⟨y62, hq⟩ := hq
      obtain ⟨y63, hq⟩ := hq
      obtain ⟨y64, hq⟩ := hq
      obtain ⟨y65, hq⟩ := hq
      obtain ⟨y66, hq⟩ := hq
      obtain ⟨y67, hq⟩ := hq
      obtain ⟨y68, hq⟩ := hq
      obtain ⟨y69, hq⟩ := hq
      obtain ⟨y70, hq⟩ := hq
      obtain ⟨y71, hq⟩ := hq
      obtain ⟨y72, hq⟩ := hq
      obtain ⟨y73, hq⟩ := hq
      obtain ⟨y74, hq⟩ := hq
      obtain ⟨y75, hq⟩ := hq
      obtain ⟨y76, hq⟩ := hq
      obtain ⟨y77, hq⟩ := hq
      obtain ⟨y78, hq⟩ := hq
      obtain ⟨y79, hq⟩ := hq
      obtain ⟨y80, hq⟩ := hq
      obtain ⟨y81, hq⟩ := hq
      obtain ⟨y82, hq⟩ := hq
      obtain ⟨y83, hq⟩ := hq
      obtain ⟨y84, hq⟩ := hq
      obtain ⟨y85, hq⟩ := hq
      obtain ⟨y86, hq⟩ := hq
      obtain ⟨y87, hq⟩ := hq
      obtain ⟨y88, hq⟩ := hq
      obtain ⟨y89, hq⟩ := hq
      obtain ⟨y90, hq⟩ := hq
      obtain ⟨y91, hq⟩ := hq
      obtain ⟨y92, hq⟩ := hq
      obtain ⟨y93, hq⟩ := hq
      obtain ⟨y94, hq⟩ := hq
      obtain ⟨y95, hq⟩ := hq
      obtain ⟨y96, hq⟩ := hq
      obtain ⟨y97, hq⟩ := hq
      obtain ⟨y98, hq⟩ := hq
      obtain ⟨y99, hq⟩ := hq
      obtain ⟨y100, hq⟩ := hq
      obtain ⟨y101, hq⟩ := hq
      obtain ⟨y102, hq⟩ := hq
      obtain ⟨y103, hq⟩ := hq
      obtain ⟨y104, hq⟩ := hq
      obtain ⟨y105, hq⟩ := hq
      obtain ⟨y106, hq⟩ := hq
      obtain ⟨y107, hq⟩ := hq
      obtain ⟨y108, hq⟩ := hq
      obtain ⟨y109, hq⟩ := hq
      obtain ⟨y110, hq⟩ := hq
      obtain ⟨y111, hq⟩ := hq
      obtain ⟨y112, hq⟩ := hq
      obtain ⟨y113, hq⟩ := hq
      obtain ⟨y114, hq⟩ := hq
      obtain ⟨y115, hq⟩ := hq
      obtain ⟨y116, hq⟩ := hq
      obtain ⟨y117, hq⟩ := hq
      obtain ⟨y118, hq⟩ := hq
      obtain ⟨y119, hq⟩ := hq
      obtain ⟨y120, hq⟩ := hq
      obtain ⟨y121, hq⟩ := hq
      obtain ⟨y122, hq⟩ := hq
      obtain ⟨y123, hq⟩ := hq
      obtain ⟨y124, hq⟩ := hq
      obtain ⟨y125, hq⟩ := hq
      obtain ⟨y126, hq⟩ := hq
      obtain ⟨y127, hq⟩ := hq
      obtain ⟨y128, hq⟩ := hq
      obtain ⟨y129, hq⟩ := hq
      obtain ⟨y130, hq⟩ := hq
      obtain ⟨y131, hq⟩ := hq
      obtain ⟨y132, hq⟩ := hq
      obtain ⟨y133, hq⟩ := hq
      obtain ⟨y134, hq⟩ := hq
      obtain ⟨y135, hq⟩ := hq
      obtain ⟨y136, hq⟩ := hq
      obtain ⟨y137, hq⟩ := hq
      obtain ⟨y138, hq⟩ := hq
      obtain ⟨y139, hq⟩ := hq
      obtain ⟨y140, hq⟩ := hq
      obtain ⟨y141, hq⟩ := hq
      obtain ⟨y142, hq⟩ := hq
      obtain ⟨y143, hq⟩ := hq
      obtain ⟨y144, hq⟩ := hq
      obtain ⟨y145, hq⟩ := hq
      obtain ⟨y146, hq⟩ := hq
      obtain ⟨y147, hq⟩ := hq
      obtain ⟨y148, hq⟩ := hq
      obtain ⟨y149, hq⟩ := hq
      obtain ⟨y150, hq⟩ := hq
      obtain ⟨y151, hq⟩ := hq
      obtain ⟨y152, hq⟩ := hq
      obtain ⟨y153, hq⟩ := hq
      obtain ⟨y154, hq⟩ := hq
      obtain ⟨y155, hq⟩ := hq
      obtain ⟨y156, hq⟩ := hq
      obtain ⟨y157, hq⟩ := hq
      obtain ⟨y158, hq⟩ := hq
      obtain ⟨y159, hq⟩ := hq
      obtain ⟨y160, hq⟩ := hq
      obtain ⟨y161, hq⟩ := hq
      obtain ⟨y162, hq⟩ := hq
      obtain ⟨y163, hq⟩ := hq
      obtain ⟨y164, hq⟩ := hq
      obtain ⟨y165, hq⟩ := hq
      obtain ⟨y166, hq⟩ := hq
      obtain ⟨y167, hq⟩ := hq
      obtain ⟨y168, hq⟩ := hq
      obtain ⟨y169, hq⟩ := hq
      obtain ⟨y170, hq⟩ := hq
      obtain ⟨y171, hq⟩ := hq
      obtain ⟨y172, hq⟩ := hq
      obtain ⟨y173, hq⟩ := hq
      obtain ⟨y174, hq⟩ := hq
      obtain ⟨y175, hq⟩ := hq
      obtain ⟨y176, hq⟩ := hq
      obtain ⟨y177, hq⟩ := hq
      obtain ⟨y178, hq⟩ := hq
      obtain ⟨y179, hq⟩ := hq
      obtain ⟨y180, hq⟩ := hq
      obtain ⟨y181, hq⟩ := hq
      obtain ⟨y182, hq⟩ := hq
      obtain ⟨y183, hq⟩ := hq
      obtain ⟨y184, hq⟩ := hq
      obtain ⟨y185, hq⟩ := hq
      obtain ⟨y186, hq⟩ := hq
      obtain ⟨y187, hq⟩ := hq
      obtain ⟨y188, hq⟩ := hq
      obtain ⟨y189, hq⟩ := hq
      obtain ⟨y190, hq⟩ := hq
      obtain ⟨y191, hq⟩ := hq
      obtain ⟨y192, hq⟩ := hq
      obtain ⟨y193, hq⟩ := hq
      obtain ⟨y194, hq⟩ := hq
      obtain ⟨y195, hq⟩ := hq
      obtain ⟨y196, hq⟩ := hq
      obtain ⟨y197, hq⟩ := hq
      obtain ⟨y198, hq⟩ := hq
      obtain ⟨y199, hq⟩ := hq
      obtain ⟨y200, hq⟩ := hq
      obtain ⟨hi, hP, hw, rfl⟩ := hq
      have HP := Lib.hid hP
      have HW := Lib.hid hw
      have hzw := hw.size
      clear hP hw
      refine wp_seq_k fun K1 hK1 => ?_
      have HK1 := Lib.hid hK1
      clear hK1
      by_cases hlt : i < N
      · have hil : (i : Int) < (N : Int) := by omega
        have hi0 : (0 : Int) ≤ (i : Int) := by omega
        have hi9 : (i : Int) < 4398046511104 := by omega
        obtain ⟨o, ho⟩ : ∃ o, ops[i]? = some o := ⟨ops[i]'(by rw [HS.out.1]; exact hlt), List.getElem?_eq_getElem _⟩
        obtain ⟨gb, off, rfl, hgb, hok, hcell⟩ := HS.out.at_ ho
        have HC := Lib.hid (show ∀ (j : Nat) v, (#[.int .i64 o.k, .int .i64 o.i, .int .i64 o.n, .slice o.A o.m o.c] : Array Value)[j]? = some v → wr.cell? ⟨gb, off + i * 4 + j, none⟩ = some v from fun j v hj => (HW.out.cell (p := ⟨gb, off + i * 4 + j, none⟩) hgb).trans (hcell j v (by simpa [Opw.row] using hj)))
        have HOK := Lib.hid hok
        clear hcell hok ho
        go_wp2_with fail
        refine HK1.out _ _ ?_
        refine wp_seq_k fun K2 hK2 => ?_
        have HK2 := Lib.hid hK2
        clear hK2
        go_wp2_with fail
        refine HK2.out _ _ ?_
        refine wp_seq_k fun K3 hK3 => ?_
        have HK3 := Lib.hid hK3
        clear hK3
        refine wp_block ?_
        refine wp_seq_k fun K4 hK4 => ?_
        have HK4 := Lib.hid hK4
        clear hK4
        have bn := Blk.new wr 65 #[.int .i64 0, .int .i64 0, .int .i64 0, .slice none 0 0]
        go_wp2_with (first
          | ((with_reducible show wpList _ _ _ (Oper.mk (some 62) (Op.load _ _) _ _ _ _ :: _) _ _); refine wpList_load_agg rfl 65 (.tmp 61) rfl gb (off + i * 4) rfl #[.int .i64 o.k, .int .i64 o.i, .int .i64 o.n, .slice o.A o.m o.c] aggOp9 rfl HC.out ?_)
          | ((with_reducible show wpList _ _ _ (Oper.mk (some 11) (Op.alloc _) _ _ _ _ :: _) _ _); refine wpList_alloc_agg rfl 65 rfl #[.int .i64 0, .int .i64 0, .int .i64 0, .slice none 0 0] zeroOp9 ?_)
          | ((with_reducible show wpList _ _ _ (Oper.mk none (Op.store _ (.tmp 11) _) _ _ _ _ :: _) _ _); refine wpList_store_whole rfl 65 (.tmp 11) (.tmp 62) rfl wr.heap.size rfl [.int .i64 o.k, .int .i64 o.i, .int .i64 o.n, .slice o.A o.m o.c] rfl aggOp9 rfl _ _ bn rfl (by simp [Value.oneCell']) ?_; intro w1 b11 q11 s11))
        have h01 : Below wr.heap.size wr w1 := (below_alloc _ _).grown q11 (by simp) (fun k hk => by cases hk; exact Nat.le_refl _)
        obtain ⟨g11, hg11⟩ : ∃ g, g = wr.heap.size := ⟨_, rfl⟩
        rw [← hg11] at b11 ⊢
        have HB11 := Lib.hid b11
        have HP1 := Lib.hid (HP.out.below h01)
        have HW1 := Lib.hid (HW.out.trans (h01.mono hzw))
        have hz1 := h01.size
        clear b11 q11 s11 bn h01 HP HW HC hg11
        refine HK4.out _ _ ?_
        refine wp_seq_k fun K5 hK5 => ?_
        have HK5 := Lib.hid hK5
        clear hK5
        refine Code.wp_mono (Q := Exit.then (Mid1 w g5 g6 gq g9 gm n mm (some ⟨gb, off, none⟩) N c i Ds) (fun _ _ _ => False)) ?_ ?_
        · rintro e a' u1 h
          cases e with
          | normal =>
            have hq : Mid1 w g5 g6 gq g9 gm n mm (some ⟨gb, off, none⟩) N c i Ds a' u1 := h
            unfold Mid1 at hq
            clear h
            obtain ⟨ps', hq⟩ := hq
            obtain ⟨y0, hq⟩ := hq
            obtain ⟨y1, hq⟩ := hq
            obtain ⟨y2, hq⟩ := hq
            obtain ⟨y3, hq⟩ := hq
            obtain ⟨y4, hq⟩ := hq
            obtain ⟨y10, hq⟩ := hq
            obtain ⟨y11, hq⟩ := hq
            obtain ⟨y12, hq⟩ := hq
            obtain ⟨y13, hq⟩ := hq
            obtain ⟨y14, hq⟩ := hq
            obtain ⟨y15, hq⟩ := hq
            obtain ⟨y16, hq⟩ := hq
            obtain ⟨y17, hq⟩ := hq
            obtain ⟨y18, hq⟩ := hq
            obtain ⟨y19, hq⟩ := hq
            obtain ⟨y20, hq⟩ := hq
            obtain ⟨y21, hq⟩ := hq
            obtain ⟨y22, hq⟩ := hq
            obtain ⟨y23, hq⟩ := hq
            obtain ⟨y24, hq⟩ := hq
            obtain ⟨y25, hq⟩ := hq
            obtain ⟨y26, hq⟩ := hq
            obtain ⟨y27, hq⟩ := hq
            obtain ⟨y28, hq⟩ := hq
            obtain ⟨y29, hq⟩ := hq
            obtain ⟨y30, hq⟩ := hq
            obtain ⟨y31, hq⟩ := hq
            obtain ⟨y32, hq⟩ := hq
            obtain ⟨y33, hq⟩ := hq
            obtain ⟨y34, hq⟩ := hq
            obtain ⟨y35, hq⟩ := hq
            obtain ⟨y36, hq⟩ := hq
            obtain ⟨y37, hq⟩ := hq
            obtain ⟨y38, hq⟩ := hq
            obtain ⟨y39, hq⟩ := hq
            obtain ⟨y40, hq⟩ := hq
            obtain ⟨y41, hq⟩ := hq
            obtain ⟨y42, hq⟩ := hq
            obtain ⟨y43, hq⟩ := hq
            obtain ⟨y44, hq⟩ := hq
            obtain ⟨y45, hq⟩ := hq
            obtain ⟨y46, hq⟩ := hq
            obtain ⟨y47, hq⟩ := hq
            obtain ⟨y48, hq⟩ := hq
            obtain ⟨y49, hq⟩ := hq
            obtain ⟨y50, hq⟩ := hq
            obtain ⟨y51, hq⟩ := hq
            obtain ⟨y52, hq⟩ := hq
            obtain ⟨y53, hq⟩ := hq
            obtain ⟨y54, hq⟩ := hq
            obtain ⟨y55, hq⟩ := hq
            obtain ⟨y56, hq⟩ := hq
            obtain ⟨y60, hq⟩ := hq
            obtain ⟨y61, hq⟩ := hq
            obtain ⟨y62, hq⟩ := hq
            obtain ⟨y63, hq⟩ := hq
            obtain ⟨y64, hq⟩ := hq
            obtain ⟨y65, hq⟩ := hq
            obtain ⟨y66, hq⟩ := hq
            obtain ⟨y67, hq⟩ := hq
            obtain ⟨y68, hq⟩ := hq
            obtain ⟨y69, hq⟩ := hq
            obtain ⟨y70, hq⟩ := hq
            obtain ⟨y71, hq⟩ := hq
            obtain ⟨y72, hq⟩ := hq
            obtain ⟨y73, hq⟩ := hq
            obtain ⟨y74, hq⟩ := hq
            obtain ⟨y75, hq⟩ := hq
            obtain ⟨y76, hq⟩ := hq
            obtain ⟨y77, hq⟩ := hq
            obtain ⟨y78, hq⟩ := hq
            obtain ⟨y79, hq⟩ := hq
            obtain ⟨y80, hq⟩ := hq
            obtain ⟨y81, hq⟩ := hq
            obtain ⟨y82, hq⟩ := hq
            obtain ⟨y83, hq⟩ := hq
            obtain ⟨y84, hq⟩ := hq
            obtain ⟨y85, hq⟩ := hq
            obtain ⟨y86, hq⟩ := hq
            obtain ⟨y87, hq⟩ := hq
            obtain ⟨y88, hq⟩ := hq
            obtain ⟨y89, hq⟩ := hq
            obtain ⟨y90, hq⟩ := hq
            obtain ⟨y91, hq⟩ := hq
            obtain ⟨y92, hq⟩ := hq
            obtain ⟨y93, hq⟩ := hq
            obtain ⟨y94, hq⟩ := hq
            obtain ⟨y95, hq⟩ := hq
            obtain ⟨y96, hq⟩ := hq
            obtain ⟨y97, hq⟩ := hq
            obtain ⟨y98, hq⟩ := hq
            obtain ⟨y99, hq⟩ := hq
            obtain ⟨y100, hq⟩ := hq
            obtain ⟨y101, hq⟩ := hq
            obtain ⟨y102, hq⟩ := hq
            obtain ⟨y103, hq⟩ := hq
            obtain ⟨y104, hq⟩ := hq
            obtain ⟨y105, hq⟩ := hq
            obtain ⟨y106, hq⟩ := hq
            obtain ⟨y107, hq⟩ := hq
            obtain ⟨y108, hq⟩ := hq
            obtain ⟨y109, hq⟩ := hq
            obtain ⟨y110, hq⟩ := hq
            obtain ⟨y111, hq⟩ := hq
            obtain ⟨y112, hq⟩ := hq
            obtain ⟨y113, hq⟩ := hq
            obtain ⟨y114, hq⟩ := hq
            obtain ⟨y115, hq⟩ := hq
            obtain ⟨y116, hq⟩ := hq
            obtain ⟨y117, hq⟩ := hq
            obtain ⟨y118, hq⟩ := hq
            obtain ⟨y119, hq⟩ := hq
            obtain ⟨y120, hq⟩ := hq
            obtain ⟨y121, hq⟩ := hq
            obtain ⟨y122, hq⟩ := hq
            obtain ⟨y123, hq⟩ := hq
            obtain ⟨y124, hq⟩ := hq
            obtain ⟨y125, hq⟩ := hq
            obtain ⟨y126, hq⟩ := hq
            obtain ⟨y127, hq⟩ := hq
            obtain ⟨y128, hq⟩ := hq
            obtain ⟨y129, hq⟩ := hq
            obtain ⟨y130, hq⟩ := hq
            obtain ⟨y131, hq⟩ := hq
            obtain ⟨y132, hq⟩ := hq
            obtain ⟨y133, hq⟩ := hq
            obtain ⟨y134, hq⟩ := hq
            obtain ⟨y135, hq⟩ := hq
            obtain ⟨y136, hq⟩ := hq
            obtain ⟨y137, hq⟩ := hq
            obtain ⟨y138, hq⟩ := hq
            obtain ⟨y139, hq⟩ := hq
            obtain ⟨y140, hq⟩ := hq
            obtain ⟨y141, hq⟩ := hq
            obtain ⟨y142, hq⟩ := hq
            obtain ⟨y143, hq⟩ := hq
            obtain ⟨y144, hq⟩ := hq
            obtain ⟨y145, hq⟩ := hq
            obtain ⟨y146, hq⟩ := hq
            obtain ⟨y147, hq⟩ := hq
            obtain ⟨y148, hq⟩ := hq
            obtain ⟨y149, hq⟩ := hq
            obtain ⟨y150, hq⟩ := hq
            obtain ⟨y151, hq⟩ := hq
            obtain ⟨y152, hq⟩ := hq
            obtain ⟨y153, hq⟩ := hq
            obtain ⟨y154, hq⟩ := hq
            obtain ⟨y155, hq⟩ := hq
            obtain ⟨y156, hq⟩ := hq
            obtain ⟨y157, hq⟩ := hq
            obtain ⟨y158, hq⟩ := hq
            obtain ⟨y159, hq⟩ := hq
            obtain ⟨y160, hq⟩ := hq
            obtain ⟨y161, hq⟩ := hq
            obtain ⟨y162, hq⟩ := hq
            obtain ⟨y163, hq⟩ := hq
            obtain ⟨y164, hq⟩ := hq
            obtain ⟨y165, hq⟩ := hq
            obtain ⟨y166, hq⟩ := hq
            obtain ⟨y167, hq⟩ := hq
            obtain ⟨y168, hq⟩ := hq
            obtain ⟨y169, hq⟩ := hq
            obtain ⟨y170, hq⟩ := hq
            obtain ⟨y171, hq⟩ := hq
            obtain ⟨y172, hq⟩ := hq
            obtain ⟨y173, hq⟩ := hq
            obtain ⟨y174, hq⟩ := hq
            obtain ⟨y175, hq⟩ := hq
            obtain ⟨y176, hq⟩ := hq
            obtain ⟨y177, hq⟩ := hq
            obtain ⟨y178, hq⟩ := hq
            obtain ⟨y179, hq⟩ := hq
            obtain ⟨y180, hq⟩ := hq
            obtain ⟨y181, hq⟩ := hq
            obtain ⟨y182, hq⟩ := hq
            obtain ⟨y183, hq⟩ := hq
            obtain ⟨y184, hq⟩ := hq
            obtain ⟨y185, hq⟩ := hq
            obtain ⟨y186, hq⟩ := hq
            obtain ⟨y187, hq⟩ := hq
            obtain ⟨y188, hq⟩ := hq
            obtain ⟨y189, hq⟩ := hq
            obtain ⟨y190, hq⟩ := hq
            obtain ⟨y191, hq⟩ := hq
            obtain ⟨y192, hq⟩ := hq
            obtain ⟨y193, hq⟩ := hq
            obtain ⟨y194, hq⟩ := hq
            obtain ⟨y195, hq⟩ := hq
            obtain ⟨y196, hq⟩ := hq
            obtain ⟨y197, hq⟩ := hq
            obtain ⟨y198, hq⟩ := hq
            obtain ⟨y199, hq⟩ := hq
            obtain ⟨y200, hq⟩ := hq
            obtain ⟨hP, hw, rfl⟩ := hq
            refine HK5.out _ _ ?_
            clear HK1 HK2 HK4 HK5
            have HP1' := Lib.hid hP
            have HW1' := Lib.hid hw
            have hzu1 := hw.size
            clear hP hw HP1 HW1
            refine wp_seq_k fun K6 hK6 => ?_
            have HK6 := Lib.hid hK6
            clear hK6
            go_wp2_with fail
            obtain ⟨g19, hg19⟩ : ∃ g, g = u1.heap.size := ⟨_, rfl⟩
            obtain ⟨u2, hu2⟩ : ∃ u, u = u1.alloc (.cells #[.int .i64 0] 3) := ⟨_, rfl⟩
            have b19 : Blk u2 g19 3 #[.int .i64 0] := by rw [hu2, hg19]; exact Blk.new _ _ _
            have hb12 : Below u1.heap.size u1 u2 := by rw [hu2]; exact below_alloc _ _
            have hz2u := hb12.size
            rw [← hu2, ← hg19]
            refine HK6.out _ _ ?_
            refine wp_seq_k fun K7 hK7 => ?_
            have HK7 := Lib.hid hK7
            have HB19 := Lib.hid b19
            have HB12 := Lib.hid hb12
            have HG19 := Lib.hid hg19
            clear hK7 hu2 hg19 b19 hb12
            refine Code.wp_mono (Q := Exit.then (Mid2 w g5 g6 gq g9 gm n mm (some ⟨gb, off, none⟩) N c i ps' Ds) (fun _ _ _ => False)) ?_ ?_
            · rintro e a' u3 h
              cases e with
              | normal =>
                clear HB19 HB12 HG19 HP1'
                have hq : Mid2 w g5 g6 gq g9 gm n mm (some ⟨gb, off, none⟩) N c i ps' Ds a' u3 := h
                unfold Mid2 at hq
                clear h
                obtain ⟨D, k, g19, hq⟩ := hq
                obtain ⟨y0, hq⟩ := hq
                obtain ⟨y1, hq⟩ := hq
                obtain ⟨y2, hq⟩ := hq
                obtain ⟨y3, hq⟩ := hq
                obtain ⟨y4, hq⟩ := hq
                obtain ⟨y10, hq⟩ := hq
                obtain ⟨y11, hq⟩ := hq
                obtain ⟨y12, hq⟩ := hq
                obtain ⟨y13, hq⟩ := hq
                obtain ⟨y14, hq⟩ := hq
                obtain ⟨y15, hq⟩ := hq
                obtain ⟨y16, hq⟩ := hq
                obtain ⟨y17, hq⟩ := hq
                obtain ⟨y18, hq⟩ := hq
                obtain ⟨y20, hq⟩ := hq
                obtain ⟨y21, hq⟩ := hq
                obtain ⟨y22, hq⟩ := hq
                obtain ⟨y23, hq⟩ := hq
                obtain ⟨y24, hq⟩ := hq
                obtain ⟨y25, hq⟩ := hq
                obtain ⟨y26, hq⟩ := hq
                obtain ⟨y27, hq⟩ := hq
                obtain ⟨y28, hq⟩ := hq
                obtain ⟨y29, hq⟩ := hq
                obtain ⟨y30, hq⟩ := hq
                obtain ⟨y31, hq⟩ := hq
                obtain ⟨y32, hq⟩ := hq
                obtain ⟨y33, hq⟩ := hq
                obtain ⟨y34, hq⟩ := hq
                obtain ⟨y35, hq⟩ := hq
                obtain ⟨y36, hq⟩ := hq
                obtain ⟨y37, hq⟩ := hq
                obtain ⟨y38, hq⟩ := hq
                obtain ⟨y39, hq⟩ := hq
                obtain ⟨y40, hq⟩ := hq
                obtain ⟨y41, hq⟩ := hq
                obtain ⟨y42, hq⟩ := hq
                obtain ⟨y43, hq⟩ := hq
                obtain ⟨y44, hq⟩ := hq
                obtain ⟨y45, hq⟩ := hq
                obtain ⟨y46, hq⟩ := hq
                obtain ⟨y47, hq⟩ := hq
                obtain ⟨y48, hq⟩ := hq
                obtain ⟨y49, hq⟩ := hq
                obtain ⟨y50, hq⟩ := hq
                obtain ⟨y51, hq⟩ := hq
                obtain ⟨y52, hq⟩ := hq
                obtain ⟨y53, hq⟩ := hq
                obtain ⟨y54, hq⟩ := hq
                obtain ⟨y55, hq⟩ := hq
                obtain ⟨y56, hq⟩ := hq
                obtain ⟨y60, hq⟩ := hq
                obtain ⟨y61, hq⟩ := hq
                obtain ⟨y62, hq⟩ := hq
                obtain ⟨y63, hq⟩ := hq
                obtain ⟨y64, hq⟩ := hq
                obtain ⟨y65, hq⟩ := hq
                obtain ⟨y66, hq⟩ := hq
                obtain ⟨y67, hq⟩ := hq
                obtain ⟨y68, hq⟩ := hq
                obtain ⟨y69, hq⟩ := hq
                obtain ⟨y70, hq⟩ := hq
                obtain ⟨y71, hq⟩ := hq
                obtain ⟨y72, hq⟩ := hq
                obtain ⟨y73, hq⟩ := hq
                obtain ⟨y74, hq⟩ := hq
                obtain ⟨y75, hq⟩ := hq
                obtain ⟨y76, hq⟩ := hq
                obtain ⟨y77, hq⟩ := hq
                obtain ⟨y78, hq⟩ := hq
                obtain ⟨y79, hq⟩ := hq
                obtain ⟨y80, hq⟩ := hq
                obtain ⟨y81, hq⟩ := hq
                obtain ⟨y82, hq⟩ := hq
                obtain ⟨y83, hq⟩ := hq
                obtain ⟨y84, hq⟩ := hq
                obtain ⟨y85, hq⟩ := hq
                obtain ⟨y86, hq⟩ := hq
                obtain ⟨y87, hq⟩ := hq
                obtain ⟨y88, hq⟩ := hq
                obtain ⟨y89, hq⟩ := hq
                obtain ⟨y90, hq⟩ := hq
                obtain ⟨y91, hq⟩ := hq
                obtain ⟨y92, hq⟩ := hq
                obtain ⟨y93, hq⟩ := hq
                obtain ⟨y94, hq⟩ := hq
                obtain ⟨y95, hq⟩ := hq
                obtain ⟨y96, hq⟩ := hq
                obtain ⟨y97, hq⟩ := hq
                obtain ⟨y98, hq⟩ := hq
                obtain ⟨y99, hq⟩ := hq
                obtain ⟨y100, hq⟩ := hq
                obtain ⟨y101, hq⟩ := hq
                obtain ⟨y102, hq⟩ := hq
                obtain ⟨y103, hq⟩ := hq
                obtain ⟨y104, hq⟩ := hq
                obtain ⟨y105, hq⟩ := hq
                obtain ⟨y106, hq⟩ := hq
                obtain ⟨y107, hq⟩ := hq
                obtain ⟨y108, hq⟩ := hq
                obtain ⟨y109, hq⟩ := hq
                obtain ⟨y110, hq⟩ := hq
                obtain ⟨y111, hq⟩ := hq
                obtain ⟨y112, hq⟩ := hq
                obtain ⟨y113, hq⟩ := hq
                obtain ⟨y114, hq⟩ := hq
                obtain ⟨y115, hq⟩ := hq
                obtain ⟨y116, hq⟩ := hq
                obtain ⟨y117, hq⟩ := hq
                obtain ⟨y118, hq⟩ := hq
                obtain ⟨y119, hq⟩ := hq
                obtain ⟨y120, hq⟩ := hq
                obtain ⟨y121, hq⟩ := hq
                obtain ⟨y122, hq⟩ := hq
                obtain ⟨y123, hq⟩ := hq
                obtain ⟨y124, hq⟩ := hq
                obtain ⟨y125, hq⟩ := hq
                obtain ⟨y126, hq⟩ := hq
                obtain ⟨y127, hq⟩ := hq
                obtain ⟨y128, hq⟩ := hq
                obtain ⟨y129, hq⟩ := hq
                obtain ⟨y130, hq⟩ := hq
                obtain ⟨y131, hq⟩ := hq
                obtain ⟨y132, hq⟩ := hq
                obtain ⟨y133, hq⟩ := hq
                obtain ⟨y134, hq⟩ := hq
                obtain ⟨y135, hq⟩ := hq
                obtain ⟨y136, hq⟩ := hq
                obtain ⟨y137, hq⟩ := hq
                obtain ⟨y138, hq⟩ := hq
                obtain ⟨y139, hq⟩ := hq
                obtain ⟨y140, hq⟩ := hq
                obtain ⟨y141, hq⟩ := hq
                obtain ⟨y142, hq⟩ := hq
                obtain ⟨y143, hq⟩ := hq
                obtain ⟨y144, hq⟩ := hq
                obtain ⟨y145, hq⟩ := hq
                obtain ⟨y146, hq⟩ := hq
                obtain ⟨y147, hq⟩ := hq
                obtain ⟨y148, hq⟩ := hq
                obtain ⟨y149, hq⟩ := hq
                obtain ⟨y150, hq⟩ := hq
                obtain ⟨y151, hq⟩ := hq
                obtain ⟨y152, hq⟩ := hq
                obtain ⟨y153, hq⟩ := hq
                obtain ⟨y154, hq⟩ := hq
                obtain ⟨y155, hq⟩ := hq
                obtain ⟨y156, hq⟩ := hq
                obtain ⟨y157, hq⟩ := hq
                obtain ⟨y158, hq⟩ := hq
                obtain ⟨y159, hq⟩ := hq
                obtain ⟨y160, hq⟩ := hq
                obtain ⟨y161, hq⟩ := hq
                obtain ⟨y162, hq⟩ := hq
                obtain ⟨y163, hq⟩ := hq
                obtain ⟨y164, hq⟩ := hq
                obtain ⟨y165, hq⟩ := hq
                obtain ⟨y166, hq⟩ := hq
                obtain ⟨y167, hq⟩ := hq
                obtain ⟨y168, hq⟩ := hq
                obtain ⟨y169, hq⟩ := hq
                obtain ⟨y170, hq⟩ := hq
                obtain ⟨y171, hq⟩ := hq
                obtain ⟨y172, hq⟩ := hq
                obtain ⟨y173, hq⟩ := hq
                obtain ⟨y174, hq⟩ := hq
                obtain ⟨y175, hq⟩ := hq
                obtain ⟨y176, hq⟩ := hq
                obtain ⟨y177, hq⟩ := hq
                obtain ⟨y178, hq⟩ := hq
                obtain ⟨y179, hq⟩ := hq
                obtain ⟨y180, hq⟩ := hq
                obtain ⟨y181, hq⟩ := hq
                obtain ⟨y182, hq⟩ := hq
                obtain ⟨y183, hq⟩ := hq
                obtain ⟨y184, hq⟩ := hq
                obtain ⟨y185, hq⟩ := hq
                obtain ⟨y186, hq⟩ := hq
                obtain ⟨y187, hq⟩ := hq
                obtain ⟨y188, hq⟩ := hq
                obtain ⟨y189, hq⟩ := hq
                obtain ⟨y190, hq⟩ := hq
                obtain ⟨y191, hq⟩ := hq
                obtain ⟨y192, hq⟩ := hq
                obtain ⟨y193, hq⟩ := hq
                obtain ⟨y194, hq⟩ := hq
                obtain ⟨y195, hq⟩ := hq
                obtain ⟨y196, hq⟩ := hq
                obtain ⟨y197, hq⟩ := hq
                obtain ⟨y198, hq⟩ := hq
                obtain ⟨y199, hq⟩ := hq
                obtain ⟨y200, hq⟩ := hq
                obtain ⟨hk, b19, hP3, hw3, rfl⟩ := hq
                refine HK7.out _ _ ?_
                clear HK6 HK7
                obtain ⟨AL, cL, m1, m2, _, m4, _, _⟩ := hP3.r
                rw [List.length_map] at m1 m2
                have hLc := m2.2.1
                have hcLm : cL ≤ 9223372036854775807 := m2.2.2.1
                have hLn : ps'.length ≤ n := by have := hP3.q.le.1; rwa [List.length_map] at this
                obtain ⟨L, hL⟩ : ∃ L, L = ps'.length := ⟨_, rfl⟩
                rw [← hL] at m1 hk hLc hLn
                have HMIN := Lib.hid (show (if (L : Int) < (mm : Int) then (L : Int) else (mm : Int)) = (k : Int) by rw [hk]; split <;> omega)
                have HLL := Lib.hid (show (((ps'.map Wt.row).length : Nat) : Int) = (L : Int) by rw [List.length_map, hL])
                have HM3 := Lib.hid m1
                have HB19 := Lib.hid b19
                have HB53 := Lib.hid hP3.b5
                have HB93 := Lib.hid hP3.b9
                have HQ3 := Lib.hid hP3.q
                have HP3 := Lib.hid hP3
                have HW3 := Lib.hid hw3
                have hzw3 := hw3.size
                have hk0 : (0 : Int) ≤ (k : Int) := by omega
                have hL0 : (0 : Int) ≤ (L : Int) := by omega
                obtain ⟨i', hi'⟩ : ∃ i', i' = i + 1 := ⟨_, rfl⟩
                have hii : (i : Int) + 1 = (i' : Int) := by omega
                have hi'N : i' ≤ N := by omega
                have HI' := Lib.hid hi'
                clear m1 m2 m4 b19 hP3 hw3 hL hk hi'
                refine wp_seq_k fun K8 hK8 => ?_
                have HK8 := Lib.hid hK8
                clear hK8
                refine wp_region_rel (fun W W' => Below W.heap.size W W') (fun W => Below u3.heap.size u3 W)
                  [Det (.int .i64 (k : Int)), Det (.int .i64 (mm : Int)), Det (.pointer (some ⟨gm, 0, none⟩)), Det (.pointer (some ⟨gm, 0, none⟩)), Det (.pointer (some ⟨gm, 1, none⟩)), Det (.slice AL L cL), Det (.int .i64 (L : Int)), Det (.int .i64 (k : Int)), Det (.bool false), Det (.bool false), Det (.pointer (some ⟨gq, 0, none⟩)), Det (.int .i64 (L : Int)), Det (.pointer (some ⟨gm, 0, none⟩)), Det (.pointer (some ⟨gm, 0, none⟩)), Det (.pointer (some ⟨gm, 1, none⟩)), Det (.slice AL L cL), Det (.int .i64 (L : Int)), Det (.bool false), Det (.bool false)]
                  [[], [], [], [(2, some 183)], [(3, some 184)], [(4, some 185)], [(5, some 186)], [(1, some 182), (6, some 187)], [(0, some 181), (7, some 188)], [(8, some 189)], [(9, some 190)], [(10, some 191), (9, some 190)], [(9, some 190)], [(12, some 193), (9, some 190)], [(13, some 194), (9, some 190)], [(14, some 195), (9, some 190)], [(15, some 196), (9, some 190)], [(11, some 192), (16, some 197), (9, some 190)], [(9, some 190), (17, some 198)]]
                  [[], [], [], [2], [2, 3], [2, 3, 4], [2, 3, 4, 5], [1, 2, 3, 4, 5, 6], [0, 1, 2, 3, 4, 5, 6, 7], [0, 1, 2, 3, 4, 5, 6, 7, 8], [0, 1, 2, 3, 4, 5, 6, 7, 8, 9], [0, 1, 2, 3, 4, 5, 6, 7, 8, 9, 10], [0, 1, 2, 3, 4, 5, 6, 7, 8, 9], [0, 1, 2, 3, 4, 5, 6, 7, 8, 9, 12], [0, 1, 2, 3, 4, 5, 6, 7, 8, 9, 12, 13], [0, 1, 2, 3, 4, 5, 6, 7, 8, 9, 12, 13, 14], [0, 1, 2, 3, 4, 5, 6, 7, 8, 9, 12, 13, 14, 15], [0, 1, 2, 3, 4, 5, 6, 7, 8, 9, 10, 11, 12, 13, 14, 15, 16], [0, 1, 2, 3, 4, 5, 6, 7, 8, 9, 10, 11, 12, 13, 14, 15, 16, 17]]
                  [(0, some 181), (1, some 182), (2, some 183), (3, some 184), (4, some 185), (5, some 186), (6, some 187), (7, some 188), (8, some 189), (9, some 190), (10, some 191), (11, some 192), (12, some 193), (13, some 194), (14, some 195), (15, some 196), (16, some 197), (17, some 198), (18, some 199)] (by kernel_rfl) (by kernel_rfl) (fun W W' h1 h2 => h1.trans (h2.mono h1.size)) ((Below.refl _ _).drew) ?_ ?_ ?_
                · exact (AllMono.cons Det.later (AllMono.cons Det.later (AllMono.cons Det.later (AllMono.cons Det.later (AllMono.cons Det.later (AllMono.cons Det.later (AllMono.cons Det.later (AllMono.cons Det.later (AllMono.cons Det.later (AllMono.cons Det.later (AllMono.cons Det.later (AllMono.cons Det.later (AllMono.cons Det.later (AllMono.cons Det.later (AllMono.cons Det.later (AllMono.cons Det.later (AllMono.cons Det.later (AllMono.cons Det.later (AllMono.cons Det.later AllMono.nil)))))))))))))))))))
                · refine AllOb.cons ?_ (AllOb.cons ?_ (AllOb.cons ?_ (AllOb.cons ?_ (AllOb.cons ?_ (AllOb.cons ?_ (AllOb.cons ?_ (AllOb.cons ?_ (AllOb.cons ?_ (AllOb.cons ?_ (AllOb.cons ?_ (AllOb.cons ?_ (AllOb.cons ?_ (AllOb.cons ?_ (AllOb.cons ?_ (AllOb.cons ?_ (AllOb.cons ?_ (AllOb.cons ?_ (AllOb.cons ?_ (AllOb.nil)))))))))))))))))))
                  · intro uF W hC' hU aF hF
                    have hC : Below u3.heap.size u3 W := hC'
                    clear hC'
                    simp only [puts] at hF
                    subst hF
                    have d_g19 : W.cell? ⟨g19, 0, none⟩ = some (.int .i64 (k : Int)) := by rw [(HB19.out.below hC HB19.out.lt).cell]; rfl
                    go_wp2_with (fail)
                    exact ⟨rfl, rfl, (Below.refl _ _), rfl⟩
                  · intro uF W hC' hU aF hF
                    have hC : Below u3.heap.size u3 W := hC'
                    clear hC'
                    simp only [puts] at hF
                    subst hF
                    have d_g5 : W.cell? ⟨g5, 0, none⟩ = some (.int .i64 (mm : Int)) := by rw [(HB53.out.below hC HB53.out.lt).cell]; rfl
                    go_wp2_with (fail)
                    exact ⟨rfl, rfl, (Below.refl _ _), rfl⟩
                  · intro uF W hC' hU aF hF
                    have hC : Below u3.heap.size u3 W := hC'
                    clear hC'
                    simp only [puts] at hF
                    subst hF
                    have d_g9 : W.cell? ⟨g9, 0, none⟩ = some (.pointer (some ⟨gm, 0, none⟩)) := by rw [(HB93.out.below hC HB93.out.lt).cell]; rfl
                    go_wp2_with (fail)
                    exact ⟨rfl, rfl, (Below.refl _ _), rfl⟩
                  · intro uF W hC' hU aF hF
                    have hC : Below u3.heap.size u3 W := hC'
                    clear hC'
                    have h183 : (Det (.pointer (some ⟨gm, 0, none⟩))) (uF 2) W := hU.1
                    clear hU
                    simp only [puts, Act.put, List.setIfInBounds_toArray, List.set_cons_zero, List.set_cons_succ] at hF
                    generalize uF 2 = x183 at h183 hF
                    obtain rfl : x183 = (.pointer (some ⟨gm, 0, none⟩)) := h183
                    subst hF
                    go_wp2_with (fail)
                    exact ⟨rfl, rfl, (Below.refl _ _), rfl⟩
                  · intro uF W hC' hU aF hF
                    have hC : Below u3.heap.size u3 W := hC'
                    clear hC'
                    have h184 : (Det (.pointer (some ⟨gm, 0, none⟩))) (uF 3) W := hU.1
                    clear hU
                    simp only [puts, Act.put, List.setIfInBounds_toArray, List.set_cons_zero, List.set_cons_succ] at hF
                    generalize uF 3 = x184 at h184 hF
                    obtain rfl : x184 = (.pointer (some ⟨gm, 0, none⟩)) := h184
                    subst hF
                    go_wp2_with (fail)
                    exact ⟨rfl, rfl, (Below.refl _ _), rfl⟩
                  · intro uF W hC' hU aF hF
                    have hC : Below u3.heap.size u3 W := hC'
                    clear hC'
                    have h185 : (Det (.pointer (some ⟨gm, 1, none⟩))) (uF 4) W := hU.1
                    clear hU
                    simp only [puts, Act.put, List.setIfInBounds_toArray, List.set_cons_zero, List.set_cons_succ] at hF
                    generalize uF 4 = x185 at h185 hF
                    obtain rfl : x185 = (.pointer (some ⟨gm, 1, none⟩)) := h185
                    subst hF
                    have d_l : W.cell? ⟨gm, 1, none⟩ = some (.slice AL L cL) := by rw [(HM3.out.below hC HM3.out.lt).cell]; rfl
                    go_wp2_with (fail)
                    exact ⟨rfl, rfl, (Below.refl _ _), rfl⟩
                  · intro uF W hC' hU aF hF
                    have hC : Below u3.heap.size u3 W := hC'
                    clear hC'
                    have h186 : (Det (.slice AL L cL)) (uF 5) W := hU.1
                    clear hU
                    simp only [puts, Act.put, List.setIfInBounds_toArray, List.set_cons_zero, List.set_cons_succ] at hF
                    generalize uF 5 = x186 at h186 hF
                    obtain rfl : x186 = (.slice AL L cL) := h186
                    subst hF
                    go_wp2_with (fail)
                    exact ⟨rfl, rfl, (Below.refl _ _), rfl⟩
                  · intro uF W hC' hU aF hF
                    have hC : Below u3.heap.size u3 W := hC'
                    clear hC'
                    have h182 : (Det (.int .i64 (mm : Int))) (uF 1) W := hU.1
                    have h187 : (Det (.int .i64 (L : Int))) (uF 6) W := hU.2.1
                    clear hU
                    simp only [puts, Act.put, List.setIfInBounds_toArray, List.set_cons_zero, List.set_cons_succ] at hF
                    generalize uF 1 = x182 at h182 hF
                    generalize uF 6 = x187 at h187 hF
                    obtain rfl : x182 = (.int .i64 (mm : Int)) := h182
                    obtain rfl : x187 = (.int .i64 (L : Int)) := h187
                    subst hF
                    go_wp2_with ((refine wpList_min rfl (.tmp 182) (.tmp 187) _ _ rfl rfl rfl (k : Int) HMIN.out ?_))
                    exact ⟨rfl, rfl, (Below.refl _ _), rfl⟩
                  · intro uF W hC' hU aF hF
                    have hC : Below u3.heap.size u3 W := hC'
                    clear hC'
                    have h181 : (Det (.int .i64 (k : Int))) (uF 0) W := hU.1
                    have h188 : (Det (.int .i64 (k : Int))) (uF 7) W := hU.2.1
                    clear hU
                    simp only [puts, Act.put, List.setIfInBounds_toArray, List.set_cons_zero, List.set_cons_succ] at hF
                    generalize uF 0 = x181 at h181 hF
                    generalize uF 7 = x188 at h188 hF
                    obtain rfl : x181 = (.int .i64 (k : Int)) := h181
                    obtain rfl : x188 = (.int .i64 (k : Int)) := h188
                    subst hF
                    go_wp2_with (fail)
                    exact ⟨rfl, rfl, (Below.refl _ _), rfl⟩
                  · intro uF W hC' hU aF hF
                    have hC : Below u3.heap.size u3 W := hC'
                    clear hC'
                    have h189 : (Det (.bool false)) (uF 8) W := hU.1
                    clear hU
                    simp only [puts, Act.put, List.setIfInBounds_toArray, List.set_cons_zero, List.set_cons_succ] at hF
                    generalize uF 8 = x189 at h189 hF
                    obtain rfl : x189 = (.bool false) := h189
                    subst hF
                    go_wp2_with (fail)
                    exact ⟨rfl, rfl, (Below.refl _ _), rfl⟩
                  · intro uF W hC' hU aF hF
                    have hC : Below u3.heap.size u3 W := hC'
                    clear hC'
                    have h190 : (Det (.bool false)) (uF 9) W := hU.1
                    clear hU
                    simp only [puts, Act.put, List.setIfInBounds_toArray, List.set_cons_zero, List.set_cons_succ] at hF
                    generalize uF 9 = x190 at h190 hF
                    obtain rfl : x190 = (.bool false) := h190
                    subst hF
                    go_wp2_with (fail)
                    exact ⟨rfl, rfl, (Below.refl _ _), rfl⟩
                  · intro uF W hC' hU aF hF
                    have hC : Below u3.heap.size u3 W := hC'
                    clear hC'
                    have h191 : (Det (.pointer (some ⟨gq, 0, none⟩))) (uF 10) W := hU.1
                    have h190 : (Det (.bool false)) (uF 9) W := hU.2.1
                    clear hU
                    simp only [puts, Act.put, List.setIfInBounds_toArray, List.set_cons_zero, List.set_cons_succ] at hF
                    generalize uF 10 = x191 at h191 hF
                    generalize uF 9 = x190 at h190 hF
                    obtain rfl : x191 = (.pointer (some ⟨gq, 0, none⟩)) := h191
                    obtain rfl : x190 = (.bool false) := h190
                    subst hF
                    go_wp2_with ((go_at_call 18; refine (len_c (HQ3.out.below hC)).mono ?_; rintro e W1 ⟨rfl, rfl⟩; rw [HLL.out]))
                    exact ⟨rfl, rfl, (Below.refl _ _), rfl⟩
                  · intro uF W hC' hU aF hF
                    have hC : Below u3.heap.size u3 W := hC'
                    clear hC'
                    have h190 : (Det (.bool false)) (uF 9) W := hU.1
                    clear hU
                    simp only [puts, Act.put, List.setIfInBounds_toArray, List.set_cons_zero, List.set_cons_succ] at hF
                    generalize uF 9 = x190 at h190 hF
                    obtain rfl : x190 = (.bool false) := h190
                    subst hF
                    have d_g9 : W.cell? ⟨g9, 0, none⟩ = some (.pointer (some ⟨gm, 0, none⟩)) := by rw [(HB93.out.below hC HB93.out.lt).cell]; rfl
                    go_wp2_with (fail)
                    exact ⟨rfl, rfl, (Below.refl _ _), rfl⟩
                  · intro uF W hC' hU aF hF
                    have hC : Below u3.heap.size u3 W := hC'
                    clear hC'
                    have h193 : (Det (.pointer (some ⟨gm, 0, none⟩))) (uF 12) W := hU.1
                    have h190 : (Det (.bool false)) (uF 9) W := hU.2.1
                    clear hU
                    simp only [puts, Act.put, List.setIfInBounds_toArray, List.set_cons_zero, List.set_cons_succ] at hF
                    generalize uF 12 = x193 at h193 hF
                    generalize uF 9 = x190 at h190 hF
                    obtain rfl : x193 = (.pointer (some ⟨gm, 0, none⟩)) := h193
                    obtain rfl : x190 = (.bool false) := h190
                    subst hF
                    go_wp2_with (fail)
                    exact ⟨rfl, rfl, (Below.refl _ _), rfl⟩
                  · intro uF W hC' hU aF hF
                    have hC : Below u3.heap.size u3 W := hC'
                    clear hC'
                    have h194 : (Det (.pointer (some ⟨gm, 0, none⟩))) (uF 13) W := hU.1
                    have h190 : (Det (.bool false)) (uF 9) W := hU.2.1
                    clear hU
                    simp only [puts, Act.put, List.setIfInBounds_toArray, List.set_cons_zero, List.set_cons_succ] at hF
                    generalize uF 13 = x194 at h194 hF
                    generalize uF 9 = x190 at h190 hF
                    obtain rfl : x194 = (.pointer (some ⟨gm, 0, none⟩)) := h194
                    obtain rfl : x190 = (.bool false) := h190
                    subst hF
                    go_wp2_with (fail)
                    exact ⟨rfl, rfl, (Below.refl _ _), rfl⟩
                  · intro uF W hC' hU aF hF
                    have hC : Below u3.heap.size u3 W := hC'
                    clear hC'
                    have h195 : (Det (.pointer (some ⟨gm, 1, none⟩))) (uF 14) W := hU.1
                    have h190 : (Det (.bool false)) (uF 9) W := hU.2.1
                    clear hU
                    simp only [puts, Act.put, List.setIfInBounds_toArray, List.set_cons_zero, List.set_cons_succ] at hF
                    generalize uF 14 = x195 at h195 hF
                    generalize uF 9 = x190 at h190 hF
                    obtain rfl : x195 = (.pointer (some ⟨gm, 1, none⟩)) := h195
                    obtain rfl : x190 = (.bool false) := h190
                    subst hF
                    have d_l : W.cell? ⟨gm, 1, none⟩ = some (.slice AL L cL) := by rw [(HM3.out.below hC HM3.out.lt).cell]; rfl
                    go_wp2_with (fail)
                    exact ⟨rfl, rfl, (Below.refl _ _), rfl⟩
                  · intro uF W hC' hU aF hF
                    have hC : Below u3.heap.size u3 W := hC'
                    clear hC'
                    have h196 : (Det (.slice AL L cL)) (uF 15) W := hU.1
                    have h190 : (Det (.bool false)) (uF 9) W := hU.2.1
                    clear hU
                    simp only [puts, Act.put, List.setIfInBounds_toArray, List.set_cons_zero, List.set_cons_succ] at hF
                    generalize uF 15 = x196 at h196 hF
                    generalize uF 9 = x190 at h190 hF
                    obtain rfl : x196 = (.slice AL L cL) := h196
                    obtain rfl : x190 = (.bool false) := h190
                    subst hF
                    go_wp2_with (fail)
                    exact ⟨rfl, rfl, (Below.refl _ _), rfl⟩
                  · intro uF W hC' hU aF hF
                    have hC : Below u3.heap.size u3 W := hC'
                    clear hC'
                    have h192 : (Det (.int .i64 (L : Int))) (uF 11) W := hU.1
                    have h197 : (Det (.int .i64 (L : Int))) (uF 16) W := hU.2.1
                    have h190 : (Det (.bool false)) (uF 9) W := hU.2.2.1
                    clear hU
                    simp only [puts, Act.put, List.setIfInBounds_toArray, List.set_cons_zero, List.set_cons_succ] at hF
                    generalize uF 11 = x192 at h192 hF
                    generalize uF 16 = x197 at h197 hF
                    generalize uF 9 = x190 at h190 hF
                    obtain rfl : x192 = (.int .i64 (L : Int)) := h192
                    obtain rfl : x197 = (.int .i64 (L : Int)) := h197
                    obtain rfl : x190 = (.bool false) := h190
                    subst hF
                    go_wp2_with (fail)
                    exact ⟨rfl, rfl, (Below.refl _ _), rfl⟩
                  · intro uF W hC' hU aF hF
                    have hC : Below u3.heap.size u3 W := hC'
                    clear hC'
                    have h190 : (Det (.bool false)) (uF 9) W := hU.1
                    have h198 : (Det (.bool false)) (uF 17) W := hU.2.1
                    clear hU
                    simp only [puts, Act.put, List.setIfInBounds_toArray, List.set_cons_zero, List.set_cons_succ] at hF
                    generalize uF 9 = x190 at h190 hF
                    generalize uF 17 = x198 at h198 hF
                    obtain rfl : x190 = (.bool false) := h190
                    obtain rfl : x198 = (.bool false) := h198
                    subst hF
                    go_wp2_with (fail)
                    exact ⟨rfl, rfl, (Below.refl _ _), rfl⟩
                intro uF W4 hC' hU aF hF
                have hCW4 : Below u3.heap.size u3 W4 := hC'
                clear hC'
                have h199 : (Det (.bool false)) (uF 18) W4 := hU.2.2.2.2.2.2.2.2.2.2.2.2.2.2.2.2.2.2.1
                clear hU
                simp only [puts, Act.put, List.setIfInBounds_toArray, List.set_cons_zero, List.set_cons_succ] at hF
                generalize uF 0 = x181 at hF
                generalize uF 1 = x182 at hF
                generalize uF 2 = x183 at hF
                generalize uF 3 = x184 at hF
                generalize uF 4 = x185 at hF
                generalize uF 5 = x186 at hF
                generalize uF 6 = x187 at hF
                generalize uF 7 = x188 at hF
                generalize uF 8 = x189 at hF
                generalize uF 9 = x190 at hF
                generalize uF 10 = x191 at hF
                generalize uF 11 = x192 at hF
                generalize uF 12 = x193 at hF
                generalize uF 13 = x194 at hF
                generalize uF 14 = x195 at hF
                generalize uF 15 = x196 at hF
                generalize uF 16 = x197 at hF
                generalize uF 17 = x198 at hF
                generalize uF 18 = x199 at h199 hF
                obtain rfl : x199 = (.bool false) := h199
                subst hF
                refine HK8.out _ _ ?_
                go_wp2_with fail
                refine HK3.out _ _ ?_
                go_wp2_with fail
                refine ⟨⟨i', ps', D :: Ds, _, _, _, _, _, _, _, _, _, _, _, _, _, _, _, _, _, _, _, _, _, _, _, _, _, _, _, _, _, _, _, _, _, _, _, _, _, _, _, _, _, _, _, _, _, _, _, _, _, _, _, _, _, _, _, _, _, _, _, _, _, _, _, _, _, _, _, _, _, _, _, _, _, _, _, _, _, _, _, _, _, _, _, _, _, _, _, _, _, _, _, _, _, _, _, _, _, _, _, _, _, _, _, _, _, _, _, _, _, _, _, _, _, _, _, _, _, _, _, _, _, _, _, _, _, _, _, _, _, _, _, _, _, _, _, _, _, _, _, _, _, _, _, _, _, _, _, _, _, _, _, _, _, _, _, _, _, _, _, _, _, _, _, _, _, _, _, _, _, _, _, _, _, _, _, _, _, _, _, _, _, _, _, _, _, _, _, _, _, _, _, _, _, hi'N, HP3.out.below hCW4, HW3.out.trans (hCW4.mono hzw3), rfl⟩, ?_⟩
                have hi' := HI'.out
                simp [MuQ, intOf]
                omega
              | _ => exact h.elim
            · exact range_c _ _ _ _ _ _ _ _ _ _ _ _ _ _ _ _ _ _ _ _ _ _ _ _ _ _ _ _ _ _ _ _ _ _ _ _ _ _ _ _ _ _ _ _ _ _ _ _ _ _ _ _ _ _ _ _ _ _ _ _ _ _ _ _ _ _ _ _ _ _ _ _ _ _ _ _ _ _ _ _ _ _ _ _ _ _ _ _ _ _ _ _ _ _ _ _ _ _ _ _ _ _ _ _ _ _ _ _ _ _ _ _ _ _ _ _ _ _ _ _ _ _ _ _ _ _ _ _ _ _ _ _ _ _ _ _ _ _ _ _ _ _ _ _ _ _ _ _ _ _ _ _ _ _ _ _ _ _ _ _ _ _ _ _ _ _ _ _ _ _ _ _ _ _ _ _ _ _ _ _ _ _ _ _ _ _ _ _ _ _ _ _ HP1'.out HW1'.out HB12.out HG19.out HB19.out hmb _ rfl

          | _ => exact h.elim
        · skip
          have hpsn : ps.length ≤ n := by have := HP1.out.q.le.1; rwa [List.length_map] at this
          by_cases hk0 : o.k = 0
          · by_cases hfull : ps.length = n
            · exact sw_full _ _ _ _ _ _ _ _ _ _ _ _ _ _ _ _ _ _ _ _ _ _ _ _ _ _ _ _ _ _ _ _ _ _ _ _ _ _ _ _ _ _ _ _ _ _ _ _ _ _ _ _ _ _ _ _ _ _ _ _ _ _ _ _ _ _ _ _ _ _ _ _ _ _ _ _ _ _ _ _ _ _ _ _ _ _ _ _ _ _ _ _ _ _ _ _ _ _ _ _ _ _ _ _ _ _ _ _ _ _ _ _ _ _ _ _ _ _ _ _ _ _ _ _ _ _ _ _ _ _ _ _ _ _ _ _ _ _ _ _ _ _ _ _ _ _ _ _ _ _ _ _ _ _ _ _ _ _ _ _ _ _ _ _ _ _ _ _ _ _ _ _ _ _ _ _ _ _ _ _ _ _ _ _ _ _ _ _ _ _ _ _ HP1.out HW1.out HB11.out HOK.out hpsn hk0 hfull _ rfl
            · exact sw_yes _ _ _ _ _ _ _ _ _ _ _ _ _ _ _ _ _ _ _ _ _ _ _ _ _ _ _ _ _ _ _ _ _ _ _ _ _ _ _ _ _ _ _ _ _ _ _ _ _ _ _ _ _ _ _ _ _ _ _ _ _ _ _ _ _ _ _ _ _ _ _ _ _ _ _ _ _ _ _ _ _ _ _ _ _ _ _ _ _ _ _ _ _ _ _ _ _ _ _ _ _ _ _ _ _ _ _ _ _ _ _ _ _ _ _ _ _ _ _ _ _ _ _ _ _ _ _ _ _ _ _ _ _ _ _ _ _ _ _ _ _ _ _ _ _ _ _ _ _ _ _ _ _ _ _ _ _ _ _ _ _ _ _ _ _ _ _ _ _ _ _ _ _ _ _ _ _ _ _ _ _ _ _ _ _ _ _ _ _ _ _ _ HP1.out HW1.out HB11.out HOK.out hpsn hk0 hfull _ rfl
          by_cases hk1 : o.k = 1
          · cases ps with
            | nil => exact sw_take0 _ _ _ _ _ _ _ _ _ _ _ _ _ _ _ _ _ _ _ _ _ _ _ _ _ _ _ _ _ _ _ _ _ _ _ _ _ _ _ _ _ _ _ _ _ _ _ _ _ _ _ _ _ _ _ _ _ _ _ _ _ _ _ _ _ _ _ _ _ _ _ _ _ _ _ _ _ _ _ _ _ _ _ _ _ _ _ _ _ _ _ _ _ _ _ _ _ _ _ _ _ _ _ _ _ _ _ _ _ _ _ _ _ _ _ _ _ _ _ _ _ _ _ _ _ _ _ _ _ _ _ _ _ _ _ _ _ _ _ _ _ _ _ _ _ _ _ _ _ _ _ _ _ _ _ _ _ _ _ _ _ _ _ _ _ _ _ _ _ _ _ _ _ _ _ _ _ _ _ _ _ _ _ _ _ _ _ _ _ _ _ _ HP1.out HW1.out HB11.out HOK.out hpsn hk0 hk1 _ rfl
            | cons p rest => exact sw_take1 _ _ _ _ _ _ _ _ _ _ _ _ _ _ _ _ _ _ _ _ _ _ _ _ _ _ _ _ _ _ _ _ _ _ _ _ _ _ _ _ _ _ _ _ _ _ _ _ _ _ _ _ _ _ _ _ _ _ _ _ _ _ _ _ _ _ _ _ _ _ _ _ _ _ _ _ _ _ _ _ _ _ _ _ _ _ _ _ _ _ _ _ _ _ _ _ _ _ _ _ _ _ _ _ _ _ _ _ _ _ _ _ _ _ _ _ _ _ _ _ _ _ _ _ _ _ _ _ _ _ _ _ _ _ _ _ _ _ _ _ _ _ _ _ _ _ _ _ _ _ _ _ _ _ _ _ _ _ _ _ _ _ _ _ _ _ _ _ _ _ _ _ _ _ _ _ _ _ _ _ _ _ _ _ _ _ _ _ _ _ _ _ HP1.out HW1.out HB11.out HOK.out hpsn hk0 hk1 _ rfl
          · exact sw_drop _ _ _ _ _ _ _ _ _ _ _ _ _ _ _ _ _ _ _ _ _ _ _ _ _ _ _ _ _ _ _ _ _ _ _ _ _ _ _ _ _ _ _ _ _ _ _ _ _ _ _ _ _ _ _ _ _ _ _ _ _ _ _ _ _ _ _ _ _ _ _ _ _ _ _ _ _ _ _ _ _ _ _ _ _ _ _ _ _ _ _ _ _ _ _ _ _ _ _ _ _ _ _ _ _ _ _ _ _ _ _ _ _ _ _ _ _ _ _ _ _ _ _ _ _ _ _ _ _ _ _ _ _ _ _ _ _ _ _ _ _ _ _ _ _ _ _ _ _ _ _ _ _ _ _ _ _ _ _ _ _ _ _ _ _ _ _ _ _ _ _ _ _ _ _ _ _ _ _ _ _ _ _ _ _ _ _ _ _ _ _ _ HP1.out HW1.out HB11.out HOK.out hpsn hk0 hk1 _ rfl
      · obtain rfl : i = N := by omega
        have hil : ¬ (i : Int) < (i : Int) := by omega
        have d6 : wr.cell? ⟨g6, 0, none⟩ = some (.bool false) := by rw [HP.out.b6.cell]; rfl
        have f6 := HP.out.b6.frozen 0
        go_wp2_with fail
        refine HK1.out _ _ ?_
        have hb6' : Blk (wr.setCell ⟨g6, 0, none⟩ (.bool true)) g6 4 #[.bool true] := by simpa using HP.out.b6.set_ 0 (.bool true)
        have hms := HP.out.ms.grown HP.out.b6 (grownBy_setCell wr g6 0 (.bool true))
        go_wp2_with fail
        refine HKL.out _ _ ?_
        go_wp2_with fail
        refine leaves_marks Ds _ (by simpa using hzw) hms (fun W' h1 h2 => ⟨_, res_boolM rfl _ g6 4 true Try.underlying4 rfl (h1 _ _ _ hb6'), rfl, ?_⟩)
        exact (HW.out.setCell (p := ⟨g6, 0, none⟩) (by show w.heap.size ≤ g6; omega) _).trans h2
end Go.Proofs.Ytkiiobfomnggcaa.queuePlays

