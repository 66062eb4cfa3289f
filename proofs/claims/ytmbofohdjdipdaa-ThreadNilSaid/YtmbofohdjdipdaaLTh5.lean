/-
  The examples of layer 12: known returns true.
-/
import Derived.Test.YtmbofohdjdipdaaLTh4
namespace Go.Proofs.Ytmbofohdjdipdaa
open Go.RowKit

def pk1 : List Nat := [0, 1, 2, 0, 1, 0, 1, 0, 1, 2]
def pk2 : List Nat := [0, 0, 0, 0, 1, 1, 1, 1, 2, 2]
def sk1 : RS := runS ⟨ws0, ts0, [], 0⟩ pk1
def sk2 : RS := runS ⟨ws0, ts0, [], 0⟩ pk2
theorem sk1_f : sk1.e = 0 ∧ sk1.out.length = 10 ∧ sk1.ws.length = 4 ∧ sk1.ws.getD 0 0 = 1 ∧ sk1.ws.getD 1 0 = 0 ∧ resOf sk1.ts 0 = 1 ∧ resOf sk1.ts 1 = 1 ∧ doneOf sk1.ts 2 = false ∧ looksOf sk1.ts 2 = 2 := by decide +kernel
theorem sk0_f : waitsOf ws0 ts0 2 = true ∧ stuckB ws0 ts0 = false := by decide +kernel
theorem sk2_f : sk2.e = 0 ∧ sk2.out.length = 10 ∧ sk2.ws.length = 4 ∧ sk2.ws.getD 0 0 = 2 ∧ resOf sk2.ts 1 = 2 ∧ resOf sk2.ts 2 = 9 ∧ stepsOf sk2.ts 2 = 2 ∧ looksOf sk2.ts 2 = 0 ∧ sk2.ts.length = 3 := by decide +kernel
def tk (j : Nat) : Thr := sk2.ts.getD j (thr0 [])
def xb : Pg := pgOf [awaitsL]
def tb (j : Nat) : Thr := ⟨xb, (tk j).steps, (tk j).looks⟩
def ts3 : List Thr := ((sk2.ts.set 0 (tb 0)).set 1 (tb 1)).set 2 (tb 2)
theorem tk_f : (tk 0).x.done = true ∧ (tk 1).x.done = true ∧ (tk 2).x.done = true ∧ waitsOf sk2.ws ts3 0 = false ∧ stuckB sk2.ws ts3 = false ∧ ts3.length = 3 ∧ (tb 0).x.done = false := by decide +kernel
theorem tk_at (j : Nat) (h : j < 3) : sk2.ts[j]? = some (tk j) := by
  have hl := sk2_f.2.2.2.2.2.2.2.2
  unfold tk
  rw [List.getElem?_eq_getElem (by omega)]
  simp [hl, h]
/-- a step with an arena -/
def aStep (ws : List Int) (x : Pg) : Res (List Int) := x.step (arenaM 0 0 0) ws
theorem aStep_eq (b g c : Nat) (ws : List Int) (x : Pg) : x.step (arenaM b g c) ws = aStep ws x := by
  unfold aStep
  cases x with
  | code c => rfl
  | chain l => cases l <;> rfl
  | greedy x nb => rfl
def aIt : Nat → Pg × List Int
  | 0 => (pgOf [addsL, awaitsL], [1])
  | k + 1 => ((aStep (aIt k).2 (aIt k).1).x, (aStep (aIt k).2 (aIt k).1).s)
theorem aIt_f : (∀ k, k < 6 → (aStep (aIt k).2 (aIt k).1).wt = false ∧ (aStep (aIt k).2 (aIt k).1).e = 0 ∧ (aIt (k + 1)).1.done = (k == 5)) ∧ (aIt 6).1.res = 9 := by decide +kernel
theorem k_program {W wr : World} {rm rn : Nat} {wM wN : List Int} {tM tN : List Thr} {ps : List PgR} (h : K2 W wr rm rn wM tM wN tN ps) (s : SlR) (l : List Ins) (hl : s.l = l) (hs : LitAt wr s) (hok : codeOkB l = true) :
    Calls Try.prog 22 #[.slice (some ⟨wr.heap.size, 0, none⟩) 1 1] (wr.alloc (.cells #[s.v] 64)) fun e w' => ∃ d fs, e = .returned d.v ∧ K2 W w' rm rn wM tM wN tN (⟨d, fs, pgOf [l]⟩ :: ps) := by
  subst hl
  have hb : Below wr.heap.size wr (wr.alloc (.cells #[s.v] 64)) := (Below.refl _ _).alloc (Nat.le_refl _) _
  refine (program_ok _ [s] 1 1 _ (Rd.of_blk (Blk.new wr 64 [s.v]) (List.prefix_refl _) (by simp)) rfl (Nat.le_refl _) (by omega) (fun x hx => ?_) (fun x hx => ?_)).mono ?_
  · rw [List.mem_singleton] at hx; subst hx; exact (hs.below hb).ok
  · rw [List.mem_singleton] at hx; subst hx; exact hok
  · rintro e w' ⟨hb2, d, fs, he, hp, hf⟩
    exact ⟨d, fs, he, (h.below hb).prog hb2 hp hf⟩
theorem k_program2 {W wr : World} {rm rn : Nat} {wM wN : List Int} {tM tN : List Thr} {ps : List PgR} (h : K2 W wr rm rn wM tM wN tN ps) (s1 s2 : SlR) (l1 l2 : List Ins) (hl1 : s1.l = l1) (hl2 : s2.l = l2) (hs1 : LitAt wr s1) (hs2 : LitAt wr s2) (hok1 : codeOkB l1 = true) (hok2 : codeOkB l2 = true) :
    Calls Try.prog 22 #[.slice (some ⟨wr.heap.size, 0, none⟩) 2 2] (wr.alloc (.cells #[s1.v, s2.v] 64)) fun e w' => ∃ d fs, e = .returned d.v ∧ K2 W w' rm rn wM tM wN tN (⟨d, fs, pgOf [l1, l2]⟩ :: ps) ∧ ∀ k ∈ fs, wr.heap.size ≤ k := by
  subst hl1 hl2
  have hb : Below wr.heap.size wr (wr.alloc (.cells #[s1.v, s2.v] 64)) := (Below.refl _ _).alloc (Nat.le_refl _) _
  refine (program_ok _ [s1, s2] 2 2 _ (Rd.of_blk (Blk.new wr 64 [s1.v, s2.v]) (List.prefix_refl _) (by simp)) rfl (by omega) (by omega) (fun x hx => ?_) (fun x hx => ?_)).mono ?_
  · simp only [List.mem_cons, List.not_mem_nil, or_false] at hx
    rcases hx with rfl | rfl
    · exact (hs1.below hb).ok
    · exact (hs2.below hb).ok
  · simp only [List.mem_cons, List.not_mem_nil, or_false] at hx
    rcases hx with rfl | rfl
    · exact hok1
    · exact hok2
  · rintro e w' ⟨hb2, d, fs, he, hp, hf⟩
    exact ⟨d, fs, he, (h.below hb).prog hb2 hp hf, fun k hk => Nat.le_trans hb.size (hf k hk)⟩
theorem pk1_v : i64s (pk1.map Int.ofNat) = [.int .i64 0, .int .i64 1, .int .i64 2, .int .i64 0, .int .i64 1, .int .i64 0, .int .i64 1, .int .i64 0, .int .i64 1, .int .i64 2] := rfl
theorem pk2_v : i64s (pk2.map Int.ofNat) = [.int .i64 0, .int .i64 0, .int .i64 0, .int .i64 0, .int .i64 1, .int .i64 1, .int .i64 1, .int .i64 1, .int .i64 2, .int .i64 2] := rfl
set_option maxRecDepth 100000 in
set_option maxHeartbeats 8000000 in
theorem known_ok (W : World) : Calls Try.prog 10 #[] W fun e w' => e = .returned (.bool true) ∧ Below W.heap.size W w' := by
  go_enter Try.func10, Try.ntmps10
  go_wp2_with fail
  refine (machine_ok _).mono ?_
  rintro e w1 ⟨b1, M, rfl, hM, fM⟩
  go_wp2_with fail
  refine (machine_ok _).mono ?_
  rintro e w2 ⟨b2, N, rfl, hN, fN⟩
  have hK := k2_new b1 hM fM b2 hN fN
  generalize M.r = rm at hK ⊢
  generalize N.r = rn at hK ⊢
  clear hM hN fM fN b1 b2
  obtain ⟨f1, f2, f3, f4, f5, f6, f7, f8, f9⟩ := sk1_f
  have H1 := Lib.hid f1
  have H2 := Lib.hid f2
  have H3 := Lib.hid f3
  have H4 := Lib.hid f4
  have H5 := Lib.hid f5
  clear f1 f2 f3 f4 f5
  have hr1 : ∀ W' : World, Rd (fun b => b < (W'.alloc (.cells [.int .i64 0, .int .i64 1, .int .i64 2, .int .i64 0, .int .i64 1, .int .i64 0, .int .i64 1, .int .i64 0, .int .i64 1, .int .i64 2].toArray 3)).heap.size) (W'.alloc (.cells [.int .i64 0, .int .i64 1, .int .i64 2, .int .i64 0, .int .i64 1, .int .i64 0, .int .i64 1, .int .i64 0, .int .i64 1, .int .i64 2].toArray 3)) (some ⟨W'.heap.size, 0, none⟩) (i64s (pk1.map Int.ofNat)) := fun W' => by
    rw [pk1_v]
    exact Rd.of_blk (Blk.new _ _ _) (List.prefix_refl _) (by simp)
  have HR1 := Lib.hid hr1
  clear hr1
  go_wp2_with fail
  refine (k_runs (hK.below (by (repeat' (first | (with_reducible exact Below.refl _ _) | (with_reducible assumption) | (with_reducible refine Below.alloc ?_ ?_ _) | (with_reducible refine Below.drew ?_) | (with_reducible refine below_drewN ?_ _) | (with_reducible refine Below.setCell ?_ ?_ _) | (with_reducible refine Below.trans ?_ (Below.mono (by assumption) ?_)) | (first | go_size | (with_reducible exact Below.size (by assumption)) | (with_reducible exact Nat.le_trans (Below.size (by assumption)) (Below.size (by assumption))) | (refine Nat.le_trans (Below.size (by assumption)) ?_; go_size)))))) _ pk1 10 10 10 (HR1.out _) rfl (by omega) (by decide) H1.out H2.out).mono ?_
  rintro e w9 ⟨rfl, hK⟩
  replace hK : K2 W _ rm rn sk1.ws sk1.ts ws0 ts0 [] := hK
  clear HR1 H1 H2
  go_wp2_with fail
  refine (k_word hK 0 1 (by show 0 < _; rw [H3.out]; omega) H4.out).mono ?_
  rintro e w9 ⟨rfl, hK⟩
  go_wp2_with fail
  refine (k_word hK 1 0 (by show 1 < _; rw [H3.out]; omega) H5.out).mono ?_
  rintro e w9 ⟨rfl, hK⟩
  go_wp2_with fail
  refine (k_result hK 0).mono ?_
  rintro e w9 ⟨rfl, rfl⟩
  go_wp2_with fail
  refine (k_result hK 1).mono ?_
  rintro e w9 ⟨rfl, rfl⟩
  go_wp2_with fail
  refine (k_done hK 2).mono ?_
  rintro e w9 ⟨rfl, rfl⟩
  go_wp2_with fail
  refine (k_looks hK 2).mono ?_
  rintro e w9 ⟨rfl, rfl⟩
  have hK := hK.swap
  obtain ⟨f21, f22⟩ := sk0_f
  obtain ⟨g1, g2, g3, g4, g5, g6, g7, g8, g9⟩ := sk2_f
  have G1 := Lib.hid g1
  have G2 := Lib.hid g2
  have G3 := Lib.hid g3
  have G4 := Lib.hid g4
  have G9 := Lib.hid g9
  clear g1 g2 g3 g4 g9
  have hr2 : ∀ W' : World, Rd (fun b => b < (W'.alloc (.cells [.int .i64 0, .int .i64 0, .int .i64 0, .int .i64 0, .int .i64 1, .int .i64 1, .int .i64 1, .int .i64 1, .int .i64 2, .int .i64 2].toArray 3)).heap.size) (W'.alloc (.cells [.int .i64 0, .int .i64 0, .int .i64 0, .int .i64 0, .int .i64 1, .int .i64 1, .int .i64 1, .int .i64 1, .int .i64 2, .int .i64 2].toArray 3)) (some ⟨W'.heap.size, 0, none⟩) (i64s (pk2.map Int.ofNat)) := fun W' => by
    rw [pk2_v]
    exact Rd.of_blk (Blk.new _ _ _) (List.prefix_refl _) (by simp)
  have HR2 := Lib.hid hr2
  clear hr2
  go_wp2_with fail
  refine (k_waits hK 2).mono ?_
  rintro e w9 ⟨rfl, hK⟩
  go_wp2_with fail
  refine (k_stuck hK).mono ?_
  rintro e w9 ⟨rfl, hK⟩
  go_wp2_with fail
  refine (k_runs (hK.below (by (repeat' (first | (with_reducible exact Below.refl _ _) | (with_reducible assumption) | (with_reducible refine Below.alloc ?_ ?_ _) | (with_reducible refine Below.drew ?_) | (with_reducible refine below_drewN ?_ _) | (with_reducible refine Below.setCell ?_ ?_ _) | (with_reducible refine Below.trans ?_ (Below.mono (by assumption) ?_)) | (first | go_size | (with_reducible exact Below.size (by assumption)) | (with_reducible exact Nat.le_trans (Below.size (by assumption)) (Below.size (by assumption))) | (refine Nat.le_trans (Below.size (by assumption)) ?_; go_size)))))) _ pk2 10 10 10 (HR2.out _) rfl (by omega) (by decide) G1.out G2.out).mono ?_
  rintro e w9 ⟨rfl, hK⟩
  replace hK : K2 W _ rn rm sk2.ws sk2.ts sk1.ws sk1.ts [] := hK
  clear HR2
  go_wp2_with fail
  refine (k_word hK 0 2 (by show 0 < _; rw [G3.out]; omega) G4.out).mono ?_
  rintro e w9 ⟨rfl, hK⟩
  go_wp2_with fail
  refine (k_result hK 1).mono ?_
  rintro e w9 ⟨rfl, rfl⟩
  go_wp2_with fail
  refine (k_result hK 2).mono ?_
  rintro e w9 ⟨rfl, rfl⟩
  go_wp2_with fail
  refine (k_steps hK 2).mono ?_
  rintro e w9 ⟨rfl, rfl⟩
  go_wp2_with fail
  refine (k_looks hK 2).mono ?_
  rintro e w9 ⟨rfl, rfl⟩
  go_wp2_with fail
  clear f6 f7 f8 f9 f21 f22 g5 g6 g7 g8 H3 H4 H5 G3 G4
  refine (awaits_ok _).mono ?_
  rintro e w10 ⟨sl, rfl, l1, _, o1, bs⟩
  have hK := hK.below bs
  go_wp2_with fail
  refine (k_program hK sl awaitsL l1 o1 (by decide)).mono ?_
  rintro e w11 ⟨d, fs, rfl, hK⟩
  obtain ⟨t1, t2, t3, t4, t5, t6, t7⟩ := tk_f
  have T1 := Lib.hid t1
  have T2 := Lib.hid t2
  have T3 := Lib.hid t3
  have T6 := Lib.hid t6
  have T7 := Lib.hid t7
  clear t1 t2 t3 t6 t7 o1 l1 bs
  go_wp2_with fail
  refine (k_put hK 0 (tk 0) (tk_at 0 (by omega)) T1.out ⟨d, fs, pgOf [awaitsL]⟩ (by simp) rfl).mono ?_
  rintro e w12 ⟨rfl, hK⟩
  replace hK : K2 W w12 rn rm sk2.ws (sk2.ts.set 0 (tb 0)) sk1.ws sk1.ts [⟨d, fs, pgOf [awaitsL]⟩] := hK
  go_wp2_with fail
  refine (k_put hK 1 (tk 1) (by rw [List.getElem?_set_ne (by omega)]; exact tk_at 1 (by omega)) T2.out ⟨d, fs, pgOf [awaitsL]⟩ (by simp) rfl).mono ?_
  rintro e w13 ⟨rfl, hK⟩
  replace hK : K2 W w13 rn rm sk2.ws ((sk2.ts.set 0 (tb 0)).set 1 (tb 1)) sk1.ws sk1.ts [⟨d, fs, pgOf [awaitsL]⟩] := hK
  go_wp2_with fail
  refine (k_put hK 2 (tk 2) (by rw [List.getElem?_set_ne (by omega), List.getElem?_set_ne (by omega)]; exact tk_at 2 (by omega)) T3.out ⟨d, fs, pgOf [awaitsL]⟩ (by simp) rfl).mono ?_
  rintro e w14 ⟨rfl, hK⟩
  replace hK : K2 W w14 rn rm sk2.ws ts3 sk1.ws sk1.ts [⟨d, fs, pgOf [awaitsL]⟩] := hK
  go_wp2_with fail
  refine (k_waits hK 0).mono ?_
  rintro e w15 ⟨rfl, hK⟩
  go_wp2_with fail
  refine (k_stuck hK).mono ?_
  rintro e w16 ⟨rfl, hK⟩
  go_wp2_with fail
  refine (k_step_out hK 3 (.inr (by rw [T6.out]; omega))).mono ?_
  rintro e w17 ⟨rfl, hK⟩
  go_wp2_with fail
  refine (k_run_out (hK.below (by (repeat' (first | (with_reducible exact Below.refl _ _) | (with_reducible assumption) | (with_reducible refine Below.alloc ?_ ?_ _) | (with_reducible refine Below.drew ?_) | (with_reducible refine below_drewN ?_ _) | (with_reducible refine Below.setCell ?_ ?_ _) | (with_reducible refine Below.trans ?_ (Below.mono (by assumption) ?_)) | (first | go_size | (with_reducible exact Below.size (by assumption)) | (with_reducible exact Nat.le_trans (Below.size (by assumption)) (Below.size (by assumption))) | (refine Nat.le_trans (Below.size (by assumption)) ?_; go_size)))))) _ [0, 7] 2 2 (Rd.of_blk (by have h := Blk.new (w17.alloc (.cells didZ.toArray 47)) 3 [.int .i64 0, .int .i64 7]; rw [World.size_alloc] at h; exact h) (List.prefix_refl _) trivial) rfl (by omega) (by rw [T6.out]; decide)).mono ?_
  rintro e w18 ⟨rfl, hK⟩
  go_wp2_with fail
  refine (bad_ok ⟨none, 0, 0, []⟩ _ ⟨Rd.nil _ _ _, rfl, Nat.le_refl _, by show (0 : Nat) ≤ 9223372036854775807; omega, fun x hx => by cases hx⟩ (by show (0 : Nat) ≤ 1000000; omega) (by decide)).mono ?_
  rintro e w19 ⟨rfl, b19⟩
  have hK := hK.below b19
  go_wp2_with fail
  refine (instr_ok _ _ _ _ _).mono ?_
  rintro e w20 ⟨rfl, b20⟩
  have hK := hK.below b20
  go_wp2_with fail
  refine (bad_ok ⟨some ⟨w20.heap.size, 0, none⟩, 1, 1, [⟨1, 4, 0, 0⟩]⟩ _ ⟨Rd.of_blk (Blk.new w20 70 (insVs [⟨1, 4, 0, 0⟩])) (List.prefix_refl _) (by simp), rfl, Nat.le_refl _, by show (1 : Nat) ≤ 9223372036854775807; omega, (by show ∀ x ∈ [(⟨1, 4, 0, 0⟩ : Ins)], insWf x; decide)⟩ (by show (1 : Nat) ≤ 1000000; omega) (by show codeOkB [(⟨1, 4, 0, 0⟩ : Ins)] = false; decide)).mono ?_
  rintro e w21 ⟨rfl, b21⟩
  have hK := hK.below (((Below.refl _ _).alloc (Nat.le_refl _) _).trans (b21.mono (by simp)))
  go_wp2_with fail
  refine (instr_ok _ _ _ _ _).mono ?_
  rintro e w22 ⟨rfl, b22⟩
  have hK := hK.below b22
  go_wp2_with fail
  refine (bad_ok ⟨some ⟨w22.heap.size, 0, none⟩, 1, 1, [⟨8, 0, 1, 0⟩]⟩ _ ⟨Rd.of_blk (Blk.new w22 70 (insVs [⟨8, 0, 1, 0⟩])) (List.prefix_refl _) (by simp), rfl, Nat.le_refl _, by show (1 : Nat) ≤ 9223372036854775807; omega, (by show ∀ x ∈ [(⟨8, 0, 1, 0⟩ : Ins)], insWf x; decide)⟩ (by show (1 : Nat) ≤ 1000000; omega) (by show codeOkB [(⟨8, 0, 1, 0⟩ : Ins)] = false; decide)).mono ?_
  rintro e w23 ⟨rfl, b23⟩
  have hK := hK.below (((Below.refl _ _).alloc (Nat.le_refl _) _).trans (b23.mono (by simp)))
  go_wp2_with fail
  refine (adds_ok _).mono ?_
  rintro e w24 ⟨s4, rfl, l4, _, o4, b24⟩
  have hK := hK.below b24
  go_wp2_with fail
  refine (k_program hK s4 addsL l4 o4 (by decide)).mono ?_
  rintro e w25 ⟨d2, fs2, rfl, hK⟩
  go_wp2_with fail
  refine (k_put_state hK 0 (tb 0) (by unfold ts3; rw [List.getElem?_set_ne (by omega), List.getElem?_set_ne (by omega), List.getElem?_set_self (by rw [G9.out]; omega)]) T7.out ⟨d2, fs2, pgOf [addsL]⟩ (by simp)).mono ?_
  rintro e w26 ⟨rfl, hK⟩
  go_wp2_with fail
  refine (adds_ok _).mono ?_
  rintro e w27 ⟨s5, rfl, l5, _, o5, b27⟩
  have hK := hK.below b27
  go_wp2_with fail
  refine (awaits_ok _).mono ?_
  rintro e w28 ⟨s6, rfl, l6, _, o6, b28⟩
  have hK := hK.below b28
  go_wp2_with fail
  have hKW := hK.b
  refine (k_program2 hK.drop s5 s6 addsL awaitsL l5 l6 (o5.below b28) o6 (by decide) (by decide)).mono ?_
  rintro e w29 ⟨d3, fs3, rfl, hK, hf3⟩
  go_wp2_with fail
  refine (made_ok _ [1] 1 1 _ (Rd.of_blk (Blk.new w29 33 [.int .u64 1]) (List.prefix_refl _) (by simp)) rfl (by omega) (by omega) (Nat.le_refl _) (by decide)).mono ?_
  rintro e w30 ⟨b, g, rfl, hm, hb, hg, b30⟩
  have hP30 : ProgAt w30 d3 fs3 (aIt 0).1 := by
    have hK := hK.below (((Below.refl _ _).alloc (Nat.le_refl _) (.cells #[.int .u64 1] 33)).trans (b30.mono (by simp)))
    obtain ⟨⟨M, N, _, _, _, _, _, _, _, h8⟩, _⟩ := hK
    exact (h8 _ (List.mem_singleton.2 rfl)).1
  have hB30 : Below W.heap.size W w30 := (hK.below (((Below.refl _ _).alloc (Nat.le_refl _) (.cells #[.int .u64 1] 33)).trans (b30.mono (by simp)))).b
  have hfW : ∀ k ∈ fs3, W.heap.size ≤ k := fun k hk => by
    have := hf3 k hk
    have z1 := b28.size
    have z2 := b27.size
    have z3 := hK.b.size
    have hz0 : W.heap.size ≤ w28.heap.size := by
      have := hKW.size
      omega
    omega
  have hbW : W.heap.size ≤ b ∧ W.heap.size ≤ g := by
    have z3 := hK.b.size
    simp only [World.size_alloc] at hb hg
    omega
  go_upto_region 17 with (fail)
  clear hK t4 t5 T1 T2 T3 T6 T7 G1 G2 G9 b30 hb hg o5 o6 hf3
  have hok3 := hP30.ok
  have z1 := hok3.ns
  have z2 := hok3.ms
  have z3 := hok3.ks
  have z4 := hok3.nd
  have z5 := hok3.md
  have z6 := hok3.kd
  have z7 := hok3.nr
  have z8 := hok3.mr
  have z9 := hok3.kr
  go_wp2_with fail
  go_loopw [10] (fun v10 wr => ∃ (k : Nat) (fs : List Nat), k ≤ 6 ∧ v10 = .int .i64 k ∧ ProgAt wr d3 fs (aIt k).1 ∧ (∀ q ∈ fs, W.heap.size ≤ q) ∧ MemAt wr b g 1 (aIt k).2 ∧ Below W.heap.size W wr) (fun v10 _ => 6 - (intOf v10).toNat)
  case atStart => exact ⟨0, fs3, Nat.zero_le _, rfl, hP30, hfW, hm, hB30⟩
  case round =>
    clear hP30 hfW hm hB30
    obtain ⟨k, fs, hk, rfl, hP, hf, hM, hB⟩ := hrel
    by_cases hlt : k < 6
    · obtain ⟨a1, a2, a3⟩ := aIt_f.1 k hlt
      have hst : Calls Try.prog d3.fs #[d3.p, .iface 26 (.pointer (some ⟨b, 0, none⟩))] wr (PStepP (arenaM b g 1) wr d3 fs (aStep (aIt k).2 (aIt k).1)) := by
        rw [← aStep_eq b g 1]
        exact p_step (arenaM b g 1) (arena_ok b g 1) (aIt k).2 hP hM
      unfold PStepP at hst
      rw [a1, a2] at hst
      have hdn := fun W' fs' (h : ProgAt W' d3 fs' (aIt (k + 1)).1) => p_done h
      rw [a3] at hdn
      have hk5 : ((k : Int) == 5) = (k == 5) := by
        rw [Bool.eq_iff_iff, beq_iff_eq, beq_iff_eq]
        omega
      have HK5 := Lib.hid hk5
      have i1 : (k : Int) < 6 := by omega
      clear a1 a2 a3 hk5
      go_upto_region 21 with ((with_reducible refine hst.mono ?_); rintro e w31 ⟨rfl, ⟨fs', hs', hP'⟩, hM', hC'⟩)
      have hP2 : ProgAt w31 d3 fs' (aIt (k + 1)).1 := hP'
      have hM2 : MemAt w31 b g 1 (aIt (k + 1)).2 := hM'
      have hB2 : Below W.heap.size wr w31 := hC'.below (fun q _ e => by
        rcases e with e | e
        · exact hf q e
        · rcases (show q = b ∨ q = g from e) with rfl | rfl
          · exact hbW.1
          · exact hbW.2) hB.size
      have hd2 := hdn _ _ hP2
      clear hP' hM' hC' hdn hst
      cases h5 : (k == 5)
      · rw [h5] at hd2
        have hk5 : ((k : Int) == 5) = false := by rw [HK5.out, h5]
        clear h5
        go_wp2_with ((with_reducible refine hd2.mono ?_); rintro e w32 ⟨rfl, rfl⟩)
        go_roundw
        case rel => exact ⟨k + 1, fs', by omega, by go_num, hP2, fun q hq => hf q (hs' q hq), hM2, hB.trans hB2⟩
        case measure => simp [intOf]; omega
      · rw [h5] at hd2
        have hk5 : ((k : Int) == 5) = true := by rw [HK5.out, h5]
        clear h5
        go_wp2_with ((with_reducible refine hd2.mono ?_); rintro e w32 ⟨rfl, rfl⟩)
        go_roundw
        case rel => exact ⟨k + 1, fs', by omega, by go_num, hP2, fun q hq => hf q (hs' q hq), hM2, hB.trans hB2⟩
        case measure => simp [intOf]; omega
    · obtain rfl : k = 6 := by omega
      have hrs := fun W' (h : ProgAt W' d3 fs (aIt 6).1) => p_result h
      rw [aIt_f.2] at hrs
      have i6 : decide (((6 : Nat) : Int) < 6) = false := rfl
      go_upto_region 24 with (go_at_call 30; refine (chain_none _ _ _).mono ?_; rintro e w33 ⟨rfl, b33⟩)
      have hP3 := hP.below b33
      go_wp2_with ((with_reducible refine (hrs _ hP3).mono ?_); rintro e w34 ⟨rfl, rfl⟩)
      go_ret
      exact ⟨rfl, hB.trans (b33.mono hB.size)⟩
end Go.Proofs.Ytmbofohdjdipdaa
