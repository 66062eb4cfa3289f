/-
  The tails of FairTurns: behind the evenness; behind the comparison of the times. Printed by gen_tfair.py.
-/
import Derived.Test.YthikpceckiapjaaFairHP
import Derived.Test.YthikpceckiapjaaKFair
namespace Go.Proofs.Ythikpceckiapjaa
open Go.RowKit
namespace FairTurns

def seqR : Nat → Code → Code
  | 0, c => c
  | n + 1, .seq _ b => seqR n b
  | _ + 1, c => c
theorem sameB_self (f : Nat → Int) : sameB f f = true := by
  unfold sameB
  rw [List.all_eq_true]
  intro i _
  simp
set_option maxRecDepth 1000000 in
set_option maxHeartbeats 16000000 in
theorem tail51 (A A7 : Option Addr) (l : List Ev) (c c7 : Nat) (rows : List (List Int)) (EV ws1 at' : Int) (w wr wc : World) (HERR : Hid (errF l = 0)) (HRW : Hid (∀ W, Below wr.heap.size wr W → Below w.heap.size w W))
    (HTU : Hid (∀ W, Below wr.heap.size wr W → Calls Try.prog 9 #[.slice A l.length c, .slice A7 rows.length c7, .int .i64 0] W fun e w' => e = .returned (.bool true) ∧ Below W.heap.size W w'))
    (HEVC : Hid (∀ W, Below wr.heap.size wr W → Calls Try.prog 11 #[.slice A l.length c, .int .i64 EV, .int .i64 0] W fun e w' => e = .returned (.bool true) ∧ Below W.heap.size W w'))
    (HWO : Hid (∀ W, Below wr.heap.size wr W → Calls Try.prog 12 #[.slice A l.length c, .int .i64 ws1, .int .i64 0] W fun e w' => e = .returned (.bool true) ∧ Below W.heap.size W w'))
    (HPA : Hid (∀ W, Below wr.heap.size wr W → Calls Try.prog 10 #[.slice A l.length c, .int .i64 at', .int .i64 0, .int .i64 3] W fun e w' => e = .returned (.bool ((passR l at' == 0) && (passE l at' == 3))) ∧ Below W.heap.size W w')) (hx : Below wr.heap.size wr wc)
    (u2 u3 u4 u5 u6 u8 u9 u10 u12 u13 u14 u15 u16 u17 u18 u19 u20 u21 u23 u24 u25 u26 u27 u28 u29 u30 u31 u32 u33 u34 u35 u36 u37 u38 u39 u40 u41 u42 u43 u44 u45 u46 u47 u48 u49 u50 u51 u52 u53 u54 u55 u56 u57 u58 u59 u60 u61 u62 u63 u64 u65 u66 u67 u68 u69 u70 u71 u72 u73 u74 u75 u76 u77 u78 u79 u80 u81 u82 u83 u84 u85 u86 u87 u88 u89 u90 u91 u92 u93 u94 u95 u96 u97 u98 u99 u100 u101 u102 u103 u104 u105 u106 u107 u108 u109 u110 u111 u112 u113 u114 u115 u116 u117 u118 u119 u120 u121 u122 u123 u124 u125 u126 u127 u128 u129 u130 u131 u132 u133 u134 u135 u136 u137 u138 u139 u140 u141 u142 u143 u144 u145 u146 u147 u148 u149 u150 u151 u152 u153 u154 u155 u156 u157 u158 u159 u160 u161 u162 u163 u164 u165 u166 u167 u168 u169 u170 u171 u172 u173 u174 u175 u176 u177 u178 u179 u180 u181 u182 u183 u184 u185 u186 u187 u188 u189 u190 u191 u192 u193 u194 u195 u196 u197 u198 u199 u200 u201 u202 u203 u204 u205 u206 u207 u208 u209 u210 u211 u212 u213 u214 u215 u216 u217 u218 u219 u220 u221 u222 u223 u224 u225 u226 u227 u228 u229 u230 u231 u232 u233 u234 u235 u236 u237 u238 u239 u240 u241 u242 u243 u244 u245 u246 u247 u248 u249 u250 u251 u252 u253 u254 u255 u256 u257 u258 u259 u260 u261 u262 u263 u264 u265 u266 u267 u268 u269 u270 u271 u272 u273 u274 u275 u276 u277 u278 u279 u280 u281 u282 u283 u284 : Value) :
    Code.wp Try.prog (seqR 12 (Try.f5.body.getD .skip)) (bodyPost Try.prog Try.f5 fun e w' => e = .returned (.bool true) ∧ Below w.heap.size w w')
      ⟨((.slice A l.length c) :: (.int .i64 at') :: u2 :: u3 :: u4 :: u5 :: u6 :: (.slice A7 rows.length c7) :: u8 :: u9 :: u10 :: (.int .i64 ws1) :: u12 :: u13 :: u14 :: u15 :: u16 :: u17 :: u18 :: u19 :: u20 :: u21 :: (.int .i64 EV) :: u23 :: u24 :: u25 :: u26 :: u27 :: u28 :: u29 :: u30 :: u31 :: u32 :: u33 :: u34 :: u35 :: u36 :: u37 :: u38 :: u39 :: u40 :: u41 :: u42 :: u43 :: u44 :: u45 :: u46 :: u47 :: u48 :: u49 :: u50 :: u51 :: u52 :: u53 :: u54 :: u55 :: u56 :: u57 :: u58 :: u59 :: u60 :: u61 :: u62 :: u63 :: u64 :: u65 :: u66 :: u67 :: u68 :: u69 :: u70 :: u71 :: u72 :: u73 :: u74 :: u75 :: u76 :: u77 :: u78 :: u79 :: u80 :: u81 :: u82 :: u83 :: u84 :: u85 :: u86 :: u87 :: u88 :: u89 :: u90 :: u91 :: u92 :: u93 :: u94 :: u95 :: u96 :: u97 :: u98 :: u99 :: u100 :: u101 :: u102 :: u103 :: u104 :: u105 :: u106 :: u107 :: u108 :: u109 :: u110 :: u111 :: u112 :: u113 :: u114 :: u115 :: u116 :: u117 :: u118 :: u119 :: u120 :: u121 :: u122 :: u123 :: u124 :: u125 :: u126 :: u127 :: u128 :: u129 :: u130 :: u131 :: u132 :: u133 :: u134 :: u135 :: u136 :: u137 :: u138 :: u139 :: u140 :: u141 :: u142 :: u143 :: u144 :: u145 :: u146 :: u147 :: u148 :: u149 :: u150 :: u151 :: u152 :: u153 :: u154 :: u155 :: u156 :: u157 :: u158 :: u159 :: u160 :: u161 :: u162 :: u163 :: u164 :: u165 :: u166 :: u167 :: u168 :: u169 :: u170 :: u171 :: u172 :: u173 :: u174 :: u175 :: u176 :: u177 :: u178 :: u179 :: u180 :: u181 :: u182 :: u183 :: u184 :: u185 :: u186 :: u187 :: u188 :: u189 :: u190 :: u191 :: u192 :: u193 :: u194 :: u195 :: u196 :: u197 :: u198 :: u199 :: u200 :: u201 :: u202 :: u203 :: u204 :: u205 :: u206 :: u207 :: u208 :: u209 :: u210 :: u211 :: u212 :: u213 :: u214 :: u215 :: u216 :: u217 :: u218 :: u219 :: u220 :: u221 :: u222 :: u223 :: u224 :: u225 :: u226 :: u227 :: u228 :: u229 :: u230 :: u231 :: u232 :: u233 :: u234 :: u235 :: u236 :: u237 :: u238 :: u239 :: u240 :: u241 :: u242 :: u243 :: u244 :: u245 :: u246 :: u247 :: u248 :: u249 :: u250 :: u251 :: u252 :: u253 :: u254 :: u255 :: u256 :: u257 :: u258 :: u259 :: u260 :: u261 :: u262 :: u263 :: u264 :: u265 :: u266 :: u267 :: u268 :: u269 :: u270 :: u271 :: u272 :: u273 :: u274 :: u275 :: u276 :: u277 :: u278 :: u279 :: u280 :: u281 :: u282 :: u283 :: u284 :: ([] : List Value)).toArray, []⟩ wc := by
  conv => arg 2; whnf
  go_upto_region 51 with fail
  go_cut [268] (fun s268 wx => s268 = .bool false ∧ Below wr.heap.size wr wx)
  case first =>
    by_cases ha : at' < 0 ∨ (l.length : Int) ≤ at'
    · have hp := HPA.out wc hx
      have hpe : passE l at' = 3 := by unfold passE; rw [if_neg (by rw [HERR.out]; omega), if_pos ha]
      have hpr : passR l at' = 0 := by unfold passR; rw [if_pos (by rw [hpe]; omega)]
      rw [hpr, hpe] at hp
      rw [show (((0 : Int) == 0) && ((3 : Int) == 3)) = true from rfl] at hp
      clear hpe hpr
      rcases ha with ha | ha
      · have d1 : decide (at' < 0) = true := decide_eq_true ha
        go_wp2_with fail
        refine hp.mono ?_
        rintro e w8 ⟨rfl, hb8⟩
        go_wp2_with fail
        go_meet
        exact ⟨rfl, hx.trans (hb8.mono hx.size)⟩
      · have d1 : decide (at' < 0) = false := decide_eq_false (by omega)
        have d2 : decide ((l.length : Int) ≤ at') = true := decide_eq_true ha
        go_wp2_with fail
        refine hp.mono ?_
        rintro e w8 ⟨rfl, hb8⟩
        go_wp2_with fail
        go_meet
        exact ⟨rfl, hx.trans (hb8.mono hx.size)⟩
    · have d1 : decide (at' < 0) = false := decide_eq_false (by omega)
      have d2 : decide ((l.length : Int) ≤ at') = false := decide_eq_false (by omega)
      clear ha
      go_wp2_with fail
      go_meet
      exact ⟨rfl, hx⟩
  case rest =>
    obtain ⟨rfl, hx⟩ := hcut
    have htu := HTU.out _ hx
    go_wp2_with fail
    refine htu.mono ?_
    rintro e w8 ⟨rfl, hb8⟩
    have hx8 := hx.trans (hb8.mono hx.size)
    have hev := HEVC.out _ hx8
    clear htu
    go_wp2_with fail
    refine hev.mono ?_
    rintro e w9 ⟨rfl, hb9⟩
    have hx9 := hx8.trans (hb9.mono hx8.size)
    have hwo := HWO.out _ hx9
    clear hev
    go_wp2_with fail
    refine hwo.mono ?_
    rintro e w10 ⟨rfl, hb10⟩
    have hx10 := hx9.trans (hb10.mono hx9.size)
    clear hwo
    go_wp2_with fail
    refine (known_ok _).mono ?_
    rintro e w11 ⟨rfl, hb11⟩
    have hfin := HRW.out _ (hx10.trans (hb11.mono hx10.size))
    go_wp2_with fail
    go_ret
    exact ⟨rfl, hfin⟩
set_option maxRecDepth 1000000 in
set_option maxHeartbeats 16000000 in
theorem tail48 (A A7 : Option Addr) (l : List Ev) (c c7 hb : Nat) (rows : List (List Int)) (EV ws1 at' : Int) (w wr wc : World) (HERR : Hid (errF l = 0)) (HRW : Hid (∀ W, Below wr.heap.size wr W → Below w.heap.size w W))
    (HTU : Hid (∀ W, Below wr.heap.size wr W → Calls Try.prog 9 #[.slice A l.length c, .slice A7 rows.length c7, .int .i64 0] W fun e w' => e = .returned (.bool true) ∧ Below W.heap.size W w'))
    (HEVC : Hid (∀ W, Below wr.heap.size wr W → Calls Try.prog 11 #[.slice A l.length c, .int .i64 EV, .int .i64 0] W fun e w' => e = .returned (.bool true) ∧ Below W.heap.size W w'))
    (HWO : Hid (∀ W, Below wr.heap.size wr W → Calls Try.prog 12 #[.slice A l.length c, .int .i64 ws1, .int .i64 0] W fun e w' => e = .returned (.bool true) ∧ Below W.heap.size W w'))
    (HPA : Hid (∀ W, Below wr.heap.size wr W → Calls Try.prog 10 #[.slice A l.length c, .int .i64 at', .int .i64 0, .int .i64 3] W fun e w' => e = .returned (.bool ((passR l at' == 0) && (passE l at' == 3))) ∧ Below W.heap.size W w'))
    (HTI : Hid (∀ W, Below w.heap.size w W → Calls Try.prog 8 #[.slice A l.length c] W (TimesP W l))) (HHB : Hid (∀ W, Below wr.heap.size wr W → HAt W hb (histF (tks l)))) (hx : Below wr.heap.size wr wc)
    (u2 u3 u4 u5 u6 u8 u9 u10 u13 u14 u15 u16 u17 u18 u19 u20 u21 u23 u24 u25 u26 u27 u28 u29 u30 u31 u32 u33 u34 u35 u36 u37 u38 u39 u40 u41 u42 u43 u44 u45 u46 u47 u48 u49 u50 u51 u52 u53 u54 u55 u56 u57 u58 u59 u60 u61 u62 u63 u64 u65 u66 u67 u68 u69 u70 u71 u72 u73 u74 u75 u76 u77 u78 u79 u80 u81 u82 u83 u84 u85 u86 u87 u88 u89 u90 u91 u92 u93 u94 u95 u96 u97 u98 u99 u100 u101 u102 u103 u104 u105 u106 u107 u108 u109 u110 u111 u112 u113 u114 u115 u116 u117 u118 u119 u120 u121 u122 u123 u124 u125 u126 u127 u128 u129 u130 u131 u132 u133 u134 u135 u136 u137 u138 u139 u140 u141 u142 u143 u144 u145 u146 u147 u148 u149 u150 u151 u152 u153 u154 u155 u156 u157 u158 u159 u160 u161 u162 u163 u164 u165 u166 u167 u168 u169 u170 u171 u172 u173 u174 u175 u176 u177 u178 u179 u180 u181 u182 u183 u184 u185 u186 u187 u188 u189 u190 u191 u192 u193 u194 u195 u196 u197 u198 u199 u200 u201 u202 u203 u204 u205 u206 u207 u208 u209 u210 u211 u212 u213 u214 u215 u216 u217 u218 u219 u220 u221 u222 u223 u224 u225 u226 u227 u228 u229 u230 u231 u232 u233 u234 u235 u236 u237 u238 u239 u240 u241 u242 u243 u244 u245 u246 u247 u248 u249 u250 u251 u252 u253 u254 u255 u256 u257 u258 u259 u260 u261 u262 u263 u264 u265 u266 u267 u268 u269 u270 u271 u272 u273 u274 u275 u276 u277 u278 u279 u280 u281 u282 u283 u284 : Value) :
    Code.wp Try.prog (seqR 10 (Try.f5.body.getD .skip)) (bodyPost Try.prog Try.f5 fun e w' => e = .returned (.bool true) ∧ Below w.heap.size w w')
      ⟨((.slice A l.length c) :: (.int .i64 at') :: u2 :: u3 :: u4 :: u5 :: u6 :: (.slice A7 rows.length c7) :: u8 :: u9 :: u10 :: (.int .i64 ws1) :: (.pointer (some ⟨hb, 0, none⟩)) :: u13 :: u14 :: u15 :: u16 :: u17 :: u18 :: u19 :: u20 :: u21 :: (.int .i64 EV) :: u23 :: u24 :: u25 :: u26 :: u27 :: u28 :: u29 :: u30 :: u31 :: u32 :: u33 :: u34 :: u35 :: u36 :: u37 :: u38 :: u39 :: u40 :: u41 :: u42 :: u43 :: u44 :: u45 :: u46 :: u47 :: u48 :: u49 :: u50 :: u51 :: u52 :: u53 :: u54 :: u55 :: u56 :: u57 :: u58 :: u59 :: u60 :: u61 :: u62 :: u63 :: u64 :: u65 :: u66 :: u67 :: u68 :: u69 :: u70 :: u71 :: u72 :: u73 :: u74 :: u75 :: u76 :: u77 :: u78 :: u79 :: u80 :: u81 :: u82 :: u83 :: u84 :: u85 :: u86 :: u87 :: u88 :: u89 :: u90 :: u91 :: u92 :: u93 :: u94 :: u95 :: u96 :: u97 :: u98 :: u99 :: u100 :: u101 :: u102 :: u103 :: u104 :: u105 :: u106 :: u107 :: u108 :: u109 :: u110 :: u111 :: u112 :: u113 :: u114 :: u115 :: u116 :: u117 :: u118 :: u119 :: u120 :: u121 :: u122 :: u123 :: u124 :: u125 :: u126 :: u127 :: u128 :: u129 :: u130 :: u131 :: u132 :: u133 :: u134 :: u135 :: u136 :: u137 :: u138 :: u139 :: u140 :: u141 :: u142 :: u143 :: u144 :: u145 :: u146 :: u147 :: u148 :: u149 :: u150 :: u151 :: u152 :: u153 :: u154 :: u155 :: u156 :: u157 :: u158 :: u159 :: u160 :: u161 :: u162 :: u163 :: u164 :: u165 :: u166 :: u167 :: u168 :: u169 :: u170 :: u171 :: u172 :: u173 :: u174 :: u175 :: u176 :: u177 :: u178 :: u179 :: u180 :: u181 :: u182 :: u183 :: u184 :: u185 :: u186 :: u187 :: u188 :: u189 :: u190 :: u191 :: u192 :: u193 :: u194 :: u195 :: u196 :: u197 :: u198 :: u199 :: u200 :: u201 :: u202 :: u203 :: u204 :: u205 :: u206 :: u207 :: u208 :: u209 :: u210 :: u211 :: u212 :: u213 :: u214 :: u215 :: u216 :: u217 :: u218 :: u219 :: u220 :: u221 :: u222 :: u223 :: u224 :: u225 :: u226 :: u227 :: u228 :: u229 :: u230 :: u231 :: u232 :: u233 :: u234 :: u235 :: u236 :: u237 :: u238 :: u239 :: u240 :: u241 :: u242 :: u243 :: u244 :: u245 :: u246 :: u247 :: u248 :: u249 :: u250 :: u251 :: u252 :: u253 :: u254 :: u255 :: u256 :: u257 :: u258 :: u259 :: u260 :: u261 :: u262 :: u263 :: u264 :: u265 :: u266 :: u267 :: u268 :: u269 :: u270 :: u271 :: u272 :: u273 :: u274 :: u275 :: u276 :: u277 :: u278 :: u279 :: u280 :: u281 :: u282 :: u283 :: u284 :: ([] : List Value)).toArray, []⟩ wc := by
  have HEQ := Lib.hid (show ∀ W, (Op.equalIn 10000 51 (.agg (tab 42 (histF (tks l))).toArray) (.agg (tab 42 (histF (tks l))).toArray)).run Try.prog W = .ok true W from fun W => by rw [eq_tab, sameB_self])
  have hti := HTI.out wc (HRW.out _ hx)
  conv => arg 2; whnf
  go_wp2_with fail
  refine hti.mono ?_
  rintro e w5 ⟨hb5, hcase⟩
  rcases hcase with ⟨hne, _⟩ | ⟨_, h2, hge, rfl, hH2⟩
  · exact absurd HERR.out hne
  have hx5 := hx.trans (hb5.mono hx.size)
  have hHb5 := HHB.out _ hx5
  have hco := fun b W hW => count_ok b (histF (tks l)) W hW
  have hsu := fun b W hW => sum_ok b (histF (tks l)) W hW
  have hbu := fun b W hW => buckets_ok b (histF (tks l)) W hW
  have heq := HEQ.out
  generalize histF (tks l) = HF at *
  clear hti hb5 hx
  go_wp2_with fail
  refine (hco h2 _ hH2).mono ?_
  rintro e w' ⟨rfl, rfl⟩
  go_wp2_with fail
  refine (hco hb _ hHb5).mono ?_
  rintro e w' ⟨rfl, rfl⟩
  go_wp2_with fail
  refine (hsu h2 _ hH2).mono ?_
  rintro e w' ⟨rfl, rfl⟩
  go_wp2_with fail
  refine (hsu hb _ hHb5).mono ?_
  rintro e w' ⟨rfl, rfl⟩
  clear hco hsu
  go_wp2_with fail
  refine (hbu h2 _ hH2).mono ?_
  rintro e w6 ⟨rfl, hb6⟩
  have hHb6 := HAt.keep hHb5 (Ch.of_below hb6 (fun _ => False)) (fun e => e)
  have hx6 := hx5.trans (hb6.mono hx5.size)
  go_wp2_with fail
  refine (hbu hb _ hHb6).mono ?_
  rintro e w7 ⟨rfl, hb7⟩
  have hx7 := hx6.trans (hb7.mono hx6.size)
  clear hbu hb6 hb7 hx5 hx6 hH2 hHb5 hHb6
  go_upto_if 254 with fail
  go_cut [] (fun wx => Below wr.heap.size wr wx)
  case first =>
    go_wp2_with fail
    go_meet
    exact hx7
  case rest =>
    rename_i K0 aK
    refine aK _ _ ?_
    exact tail51 A A7 l c c7 rows EV ws1 at' w wr wc HERR HRW HTU HEVC HWO HPA hcut _ _ _ _ _ _ _ _ _ _ _ _ _ _ _ _ _ _ _ _ _ _ _ _ _ _ _ _ _ _ _ _ _ _ _ _ _ _ _ _ _ _ _ _ _ _ _ _ _ _ _ _ _ _ _ _ _ _ _ _ _ _ _ _ _ _ _ _ _ _ _ _ _ _ _ _ _ _ _ _ _ _ _ _ _ _ _ _ _ _ _ _ _ _ _ _ _ _ _ _ _ _ _ _ _ _ _ _ _ _ _ _ _ _ _ _ _ _ _ _ _ _ _ _ _ _ _ _ _ _ _ _ _ _ _ _ _ _ _ _ _ _ _ _ _ _ _ _ _ _ _ _ _ _ _ _ _ _ _ _ _ _ _ _ _ _ _ _ _ _ _ _ _ _ _ _ _ _ _ _ _ _ _ _ _ _ _ _ _ _ _ _ _ _ _ _ _ _ _ _ _ _ _ _ _ _ _ _ _ _ _ _ _ _ _ _ _ _ _ _ _ _ _ _ _ _ _ _ _ _ _ _ _ _ _ _ _ _ _ _ _ _ _ _ _ _ _ _ _ _ _ _ _ _ _ _ _ _ _ _ _ _ _ _ _ _ _ _ _ _ _ _ _ _ _ _ _ _ _ _
end FairTurns
end Go.Proofs.Ythikpceckiapjaa
