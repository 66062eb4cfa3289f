/-
  The statement's helpers of layer 13: checks, replays, waits, changes, of.
-/
import Derived.Test.YtpndlggahdefcaaRTr2
import Derived.Test.YtpndlggahdefcaaTr7
namespace Go.Proofs.Ytpndlggahdefcaa
open Go.RowKit
set_option linter.unusedSimpArgs false
set_option linter.unusedVariables false

theorem fitB_mono (ws : List Int) (l : List Dd) (k : Nat) : ∀ n : Nat, k ≤ n → fitB ws l n = true → fitB ws l k = true
  | 0, h, hg => by obtain rfl : k = 0 := (by omega); exact hg
  | n + 1, h, hg => by
    by_cases e : k = n + 1
    · subst e; exact hg
    · have : fitB ws l n = true := by
        have h2 : (fitB ws l n && match l[n]? with | some d => stF (rpW ws (l.take n)) d | none => true) = true := hg
        rw [Bool.and_eq_true] at h2
        exact h2.1
      exact fitB_mono ws l k n (by omega) this
/-- how many of the first k fit -/
def fitN (ws : List Int) (l : List Dd) : Nat → Nat
  | 0 => 0
  | k + 1 => if fitB ws l (k + 1) = true then k + 1 else fitN ws l k
theorem fitN_eq (ws : List Int) (l : List Dd) (k : Nat) (h1 : fitB ws l k = true) (h2 : fitB ws l (k + 1) = false) : ∀ n : Nat, k ≤ n → fitN ws l n = k
  | 0, h => by obtain rfl : k = 0 := (by omega); rfl
  | n + 1, h => by
    by_cases e : k = n + 1
    · subst e
      show (if fitB ws l (n + 1) = true then n + 1 else fitN ws l n) = n + 1
      rw [if_pos h1]
    · show (if fitB ws l (n + 1) = true then n + 1 else fitN ws l n) = k
      rw [if_neg, fitN_eq ws l k h1 h2 n (by omega)]
      intro h3
      rw [fitB_mono ws l (k + 1) (n + 1) (by omega) h3] at h2
      cases h2
def ckV (ws : List Int) (l : List Dd) : Int × Int := if wrongF l ≠ 0 then (0, wrongF l) else if ws.length < 1 ∨ 65536 < ws.length then (0, 2) else if fitB ws l l.length = true then (-1, 0) else (fitN ws l l.length, 0)
def ryV (ws : List Int) (l : List Dd) : List Int × Int := if wrongF l ≠ 0 then ([], wrongF l) else if ws.length < 1 ∨ 65536 < ws.length then ([], 2) else if fitB ws l l.length = true then (rpW ws l, 0) else ([], 10)
def wtV (l : List Dd) : List Wt × Int := if wrongF l ≠ 0 then ([], wrongF l) else (refW l l.length, 0)
def chV (l : List Dd) (x : Int) : List Int × Int := if wrongF l ≠ 0 then ([], wrongF l) else if x < 0 ∨ 65536 ≤ x then ([], 2) else (chgL l x l.length, 0)
def ofV (l : List Dd) (t : Int) : List Dd × Int := if wrongF l ≠ 0 then ([], wrongF l) else if t < 0 ∨ 64 ≤ t then ([], 2) else (l.filter (keepB t), 0)
theorem ck_of {w w' : World} {ws : List Int} {l : List Dd} {e : Ending} (h : CkPost w ws l e w') : Below w.heap.size w w' ∧ e = .returned (.tuple #[.int .i64 (ckV ws l).1, .int .i64 (ckV ws l).2]) := by
  obtain ⟨hb, h⟩ := h
  refine ⟨hb, ?_⟩
  unfold ckV
  rcases h with ⟨h1, rfl⟩ | ⟨h1, h2, rfl⟩ | ⟨h1, h2, h3, ⟨k, q1, q2, q3, rfl⟩ | ⟨q1, rfl⟩⟩
  · rw [if_pos h1]
  · rw [if_neg (by omega), if_pos h2]
  · have hn : ¬ fitB ws l l.length = true := fun h => by
      rw [fitB_mono ws l (k + 1) l.length (by omega) h] at q3
      cases q3
    rw [if_neg (by omega), if_neg (by omega), if_neg hn, fitN_eq ws l k q2 q3 _ (by omega)]
  · rw [if_neg (by omega), if_neg (by omega), if_pos q1]
theorem rd_none {G : Nat → Prop} {w : World} : Rd G w none [] := fun h => absurd rfl h
theorem own_rd {w : World} {base n : Nat} {e : TypeId} {size : Nat} {v : Value} {xs : List Value} (h : w.ownsRow base e size v n xs) : ∃ A c, v = .slice A n c ∧ n ≤ c ∧ c ≤ 9223372036854775807 ∧ Rd (fun _ => True) w A xs := by
  obtain ⟨A, c, rfl, _, _⟩ := own_slice h
  have := own_cap h
  exact ⟨A, c, rfl, this.1, this.2, (Rd.of_own h).mono (fun _ _ _ => trivial)⟩
/-- a row and an error -/
def RowErr {α : Type} (enc : List α → List Value) (w : World) (V : List α × Int) (e : Ending) (w' : World) : Prop :=
  Below w.heap.size w w' ∧ ∃ A c, V.1.length ≤ c ∧ c ≤ 9223372036854775807 ∧ Rd (fun _ => True) w' A (enc V.1) ∧ e = .returned (.tuple #[.slice A V.1.length c, .int .i64 V.2])
theorem ry_of {w w' : World} {ws : List Int} {l : List Dd} {e : Ending} (h : RyPost w ws l e w') : RowErr u64s w (ryV ws l) e w' := by
  obtain ⟨hb, h⟩ := h
  refine ⟨hb, ?_⟩
  unfold ryV
  rcases h with ⟨h1, rfl⟩ | ⟨h1, h2, rfl⟩ | ⟨h1, h2, h3, ⟨k, q1, q2, q3, rfl⟩ | ⟨q1, base, v, q2, q3, rfl⟩⟩
  · rw [if_pos h1]
    exact ⟨none, 0, Nat.le_refl _, by omega, rd_none, rfl⟩
  · rw [if_neg (by omega), if_pos h2]
    exact ⟨none, 0, Nat.le_refl _, by omega, rd_none, rfl⟩
  · have hn : ¬ fitB ws l l.length = true := fun h => by
      rw [fitB_mono ws l (k + 1) l.length (by omega) h] at q3
      cases q3
    rw [if_neg (by omega), if_neg (by omega), if_neg hn]
    exact ⟨none, 0, Nat.le_refl _, by omega, rd_none, rfl⟩
  · rw [if_neg (by omega), if_neg (by omega), if_pos q1]
    obtain ⟨A, c, rfl, c1, c2, c3⟩ := own_rd q3
    rw [← rpW_len ws l] at c1
    exact ⟨A, c, c1, c2, c3, by rw [rpW_len]⟩
theorem wt_of {w w' : World} {l : List Dd} {e : Ending} (h : WtPost w l e w') : RowErr wts w (wtV l) e w' := by
  obtain ⟨hb, h⟩ := h
  refine ⟨hb, ?_⟩
  unfold wtV
  rcases h with ⟨h1, rfl⟩ | ⟨h1, A, c, c1, c2, c3, rfl⟩
  · rw [if_pos h1]
    exact ⟨none, 0, Nat.le_refl _, by omega, rd_none, rfl⟩
  · rw [if_neg (by omega)]
    exact ⟨A, c, c1, c2, c3.mono (fun _ _ _ => trivial), rfl⟩
theorem ch_of {w w' : World} {l : List Dd} {x : Int} {e : Ending} (h : ChPost w l x e w') : RowErr ints w (chV l x) e w' := by
  obtain ⟨hb, h⟩ := h
  refine ⟨hb, ?_⟩
  unfold chV
  rcases h with ⟨h1, rfl⟩ | ⟨h1, h2, rfl⟩ | ⟨h1, h2, h3, base, v, q2, q3, rfl⟩
  · rw [if_pos h1]
    exact ⟨none, 0, Nat.le_refl _, by omega, rd_none, rfl⟩
  · rw [if_neg (by omega), if_pos h2]
    exact ⟨none, 0, Nat.le_refl _, by omega, rd_none, rfl⟩
  · rw [if_neg (by omega), if_neg (by omega)]
    obtain ⟨A, c, rfl, c1, c2, c3⟩ := own_rd q3
    exact ⟨A, c, c1, c2, c3, rfl⟩
theorem of_of {w w' : World} {l : List Dd} {t : Int} {e : Ending} (h : OfPost w l t e w') : RowErr dds w (ofV l t) e w' := by
  obtain ⟨hb, h⟩ := h
  refine ⟨hb, ?_⟩
  unfold ofV
  rcases h with ⟨h1, rfl⟩ | ⟨h1, h2, rfl⟩ | ⟨h1, h2, h3, A, c, c1, c2, c3, rfl⟩
  · rw [if_pos h1]
    exact ⟨none, 0, Nat.le_refl _, by omega, rd_none, rfl⟩
  · rw [if_neg (by omega), if_pos h2]
    exact ⟨none, 0, Nat.le_refl _, by omega, rd_none, rfl⟩
  · rw [if_neg (by omega), if_neg (by omega)]
    exact ⟨A, c, c1, c2, c3.mono (fun _ _ _ => trivial), rfl⟩
/-! ### the helpers -/
theorem lchecks_ok (A B : Option Addr) (ws : List Int) (l : List Dd) (n c m d : Nat) (want no : Int) (w : World)
    (hrw : Rd (fun b => b < w.heap.size) w A (u64s ws)) (hlw : ws.length = n) (hn : n ≤ 9223372036854775806) (hc : n ≤ c) (hwfw : ∀ x ∈ ws, 0 ≤ x ∧ x ≤ 18446744073709551615)
    (hr : Rd (fun b => b < w.heap.size) w B (dds l)) (hl : l.length = m) (hm : m ≤ 9223372036854775806) (hwfl : ∀ x ∈ l, x.wf) :
    Calls Try.prog 19 #[.slice A n c, .slice B m d, .int .i64 want, .int .i64 no] w fun e w' => e = .returned (.bool (decide (ckV ws l = (want, no)))) ∧ Below w.heap.size w w' := by
  have hck := check_ok A B ws l n c m d w hrw hlw hn hc hwfw hr hl hm hwfl
  have HE := Lib.hid (show decide (ckV ws l = (want, no)) = (((ckV ws l).1 == want) && ((ckV ws l).2 == no)) by
    obtain ⟨a, b⟩ := ckV ws l
    rw [Bool.eq_iff_iff]
    simp)
  clear hrw hlw hn hc hwfw hr hl hm hwfl
  rw [HE.out]
  have HC := Lib.hid hck
  cases h1 : ((ckV ws l).1 == want) <;> cases h2 : ((ckV ws l).2 == no)
  all_goals
    go_enter Try.func19, Try.ntmps19
    go_wp2_with fail
    refine HC.out.mono ?_
    rintro e w1 hp
    obtain ⟨hb, rfl⟩ := ck_of hp
    clear hp hck
    go_wp2_with fail
    go_ret
    exact ⟨rfl, hb⟩
theorem pair_dec {α β : Type} [DecidableEq α] [DecidableEq β] (p : α × β) (a : α) (b : β) : decide (p = (a, b)) = (decide (p.1 = a) && decide (p.2 = b)) := by
  obtain ⟨x, y⟩ := p
  rw [Bool.eq_iff_iff]
  simp
theorem ryV_len (ws : List Int) (l : List Dd) : (ryV ws l).1.length ≤ 65536 := by
  unfold ryV
  split
  · simp
  · split
    · simp
    · split
      · rw [rpW_len]; omega
      · simp
theorem lreplays_ok (A B A2 : Option Addr) (ws want : List Int) (l : List Dd) (n c m d n2 c2 : Nat) (no : Int) (w : World)
    (hrw : Rd (fun b => b < w.heap.size) w A (u64s ws)) (hlw : ws.length = n) (hn : n ≤ 9223372036854775806) (hc : n ≤ c) (hwfw : ∀ x ∈ ws, 0 ≤ x ∧ x ≤ 18446744073709551615)
    (hr : Rd (fun b => b < w.heap.size) w B (dds l)) (hl : l.length = m) (hm : m ≤ 9223372036854775806) (hwfl : ∀ x ∈ l, x.wf)
    (hr2 : Rd (fun _ => True) w A2 (u64s want)) (hl2 : want.length = n2) (hn2 : n2 ≤ 100000) (hc2 : n2 ≤ c2) :
    Calls Try.prog 20 #[.slice A n c, .slice B m d, .slice A2 n2 c2, .int .i64 no] w fun e w' => e = .returned (.bool (decide (ryV ws l = (want, no)))) ∧ Below w.heap.size w w' := by
  have hck := replays_ok A B ws l n c m d w hrw hlw hn hc hwfw hr hl hm hwfl
  have HLE := Lib.hid (ryV_len ws l)
  rw [pair_dec]
  have HC := Lib.hid (hck.mono (fun _ _ h => ry_of h))
  generalize ryV ws l = V at *
  obtain ⟨V1, V2⟩ := V
  clear hrw hlw hn hc hwfw hr hl hm hwfl hck
  simp only at HLE ⊢
  obtain ⟨X, hX⟩ : ∃ X, decide (V1 = want) = X := ⟨_, rfl⟩
  rw [hX]
  have HX := Lib.hid hX
  clear hX
  have HE := Lib.hid (show decide (V2 = no) = (V2 == no) by rw [Bool.eq_iff_iff]; simp)
  rw [HE.out]
  cases h2 : (V2 == no) <;> cases X
  all_goals
    go_enter Try.func20, Try.ntmps20
    go_wp2_with fail
    refine HC.out.mono ?_
    rintro e w1 ⟨hb, A3, c3, c4, c5, hr3, rfl⟩
    have hs := rsame_any A3 A2 V1 want V1.length n2 c3 c2 w1 hr3 (hr2.keep (Ch.of_below hb (fun _ => False)) (fun _ _ _ e => e)) rfl hl2 (by have := HLE.out; omega) hn2 c4 hc2
    rw [show eqB V1 want = _ from HX.out] at hs
    clear hr3
    go_wp2_with fail
    refine hs.mono ?_
    rintro e w2 ⟨rfl, q, rfl⟩
    clear hs
    go_wp2_with fail
    go_ret
    exact ⟨rfl, below_drewN hb q⟩
theorem wtV_len (l : List Dd) : (wtV l).1.length ≤ l.length := by
  unfold wtV
  split
  · simp
  · exact refW_len l l.length
theorem lwaits_ok (B A2 : Option Addr) (want : List Wt) (l : List Dd) (m d n2 c2 : Nat) (no : Int) (w : World)
    (hr : Rd (fun b => b < w.heap.size) w B (dds l)) (hl : l.length = m) (hm : m ≤ 1000000)
    (hr2 : Rd (fun _ => True) w A2 (wts want)) (hl2 : want.length = n2) (hn2 : n2 ≤ 1000000) (hc2 : n2 ≤ c2) :
    Calls Try.prog 25 #[.slice B m d, .int .i64 no, .slice A2 n2 c2] w fun e w' => e = .returned (.bool (decide (wtV l = (want, no)))) ∧ Below w.heap.size w w' := by
  have hck := waits_ok B l m d w hr hl (by omega)
  have HLE := Lib.hid (show (wtV l).1.length ≤ 1000000 by have := wtV_len l; omega)
  rw [pair_dec]
  have HC := Lib.hid (hck.mono (fun _ _ h => wt_of h))
  generalize wtV l = V at *
  obtain ⟨V1, V2⟩ := V
  clear hr hl hm hck
  simp only at HLE ⊢
  obtain ⟨X, hX⟩ : ∃ X, decide (V1 = want) = X := ⟨_, rfl⟩
  rw [hX]
  have HX := Lib.hid hX
  clear hX
  have HE := Lib.hid (show decide (V2 = no) = (V2 == no) by rw [Bool.eq_iff_iff]; simp)
  rw [HE.out]
  cases h2 : (V2 == no) <;> cases X
  all_goals
    go_enter Try.func25, Try.ntmps25
    go_wp2_with fail
    refine HC.out.mono ?_
    rintro e w1 ⟨hb, A3, c3, c4, c5, hr3, rfl⟩
    have hs := rsameW_ok A3 A2 V1 want V1.length n2 c3 c2 w1 hr3 (hr2.keep (Ch.of_below hb (fun _ => False)) (fun _ _ _ e => e)) rfl hl2 HLE.out hn2 c4 hc2
    rw [HX.out] at hs
    clear hr3
    go_wp2_with fail
    refine hs.mono ?_
    rintro e w2 ⟨rfl, hb2⟩
    clear hs
    go_wp2_with fail
    go_ret
    exact ⟨rfl, hb.trans (hb2.mono hb.size)⟩
theorem ofV_len (l : List Dd) (t : Int) : (ofV l t).1.length ≤ l.length := by
  unfold ofV
  split
  · simp
  · split
    · simp
    · exact List.length_filter_le _ _
theorem lof_ok (B A2 : Option Addr) (want : List Dd) (l : List Dd) (t : Int) (m d n2 c2 : Nat) (no : Int) (w : World)
    (hr : Rd (fun b => b < w.heap.size) w B (dds l)) (hl : l.length = m) (hm : m ≤ 1000000) (hB : B = none → d = 0)
    (hr2 : Rd (fun _ => True) w A2 (dds want)) (hl2 : want.length = n2) (hn2 : n2 ≤ 1000000) (hc2 : n2 ≤ c2) :
    Calls Try.prog 27 #[.slice B m d, .int .i64 t, .int .i64 no, .slice A2 n2 c2] w fun e w' => e = .returned (.bool (decide (ofV l t = (want, no)))) ∧ Below w.heap.size w w' := by
  have hck := of_ok B l t m d w hr hl (by omega) hB
  have HLE := Lib.hid (show (ofV l t).1.length ≤ 1000000 by have := ofV_len l t; omega)
  rw [pair_dec]
  have HC := Lib.hid (hck.mono (fun _ _ h => of_of h))
  generalize ofV l t = V at *
  obtain ⟨V1, V2⟩ := V
  clear hr hl hm hck hB
  simp only at HLE ⊢
  obtain ⟨X, hX⟩ : ∃ X, decide (V1 = want) = X := ⟨_, rfl⟩
  rw [hX]
  have HX := Lib.hid hX
  clear hX
  have HE := Lib.hid (show decide (V2 = no) = (V2 == no) by rw [Bool.eq_iff_iff]; simp)
  rw [HE.out]
  cases h2 : (V2 == no) <;> cases X
  all_goals
    go_enter Try.func27, Try.ntmps27
    go_wp2_with fail
    refine HC.out.mono ?_
    rintro e w1 ⟨hb, A3, c3, c4, c5, hr3, rfl⟩
    have hs := rsameD_ok A3 A2 V1 want V1.length n2 c3 c2 w1 hr3 (hr2.keep (Ch.of_below hb (fun _ => False)) (fun _ _ _ e => e)) rfl hl2 HLE.out hn2 c4 hc2
    rw [HX.out] at hs
    clear hr3
    go_wp2_with fail
    refine hs.mono ?_
    rintro e w2 ⟨rfl, hb2⟩
    clear hs
    go_wp2_with fail
    go_ret
    exact ⟨rfl, hb.trans (hb2.mono hb.size)⟩
theorem rd_int {G : Nat → Prop} {w : World} {A : Option Addr} {xs : List Int} (h : Rd G w A (ints xs)) {j : Nat} (hj : j < xs.length) :
    ∃ b o, A = some ⟨b, o, none⟩ ∧ G b ∧ w.cell? ⟨b, o + j, none⟩ = some (.int .i64 (xs.getD j 0)) := by
  obtain ⟨b, o, h1, h2, h3⟩ := h.at (j := j) (by simpa [ints] using hj)
  refine ⟨b, o, h1, h2, ?_⟩
  rw [h3]
  simp [ints, List.getD, List.getElem?_eq_getElem hj]
theorem chV_len (l : List Dd) (x : Int) : (chV l x).1.length ≤ l.length := by
  unfold chV
  split
  · simp
  · split
    · simp
    · exact chgL_len l x l.length
set_option maxHeartbeats 1000000 in
theorem lchanges_ok (B A2 : Option Addr) (want : List Int) (l : List Dd) (x : Int) (m d n2 c2 : Nat) (no : Int) (w : World)
    (hr : Rd (fun b => b < w.heap.size) w B (dds l)) (hl : l.length = m) (hm : m ≤ 1000000)
    (hr2 : Rd (fun _ => True) w A2 (ints want)) (hl2 : want.length = n2) (hn2 : n2 ≤ 1000000) (hc2 : n2 ≤ c2) :
    Calls Try.prog 26 #[.slice B m d, .int .i64 x, .int .i64 no, .slice A2 n2 c2] w fun e w' => e = .returned (.bool (decide (chV l x = (want, no)))) ∧ Below w.heap.size w w' := by
  have hck := chgs_ok B l x m d w hr hl (by omega)
  have HLE := Lib.hid (show (chV l x).1.length ≤ 1000000 by have := chV_len l x; omega)
  rw [pair_dec]
  have HC := Lib.hid (hck.mono (fun _ _ h => ch_of h))
  generalize chV l x = V at *
  obtain ⟨V1, V2⟩ := V
  clear hr hl hm hck
  simp only at HLE ⊢
  have HE := Lib.hid (show decide (V2 = no) = (V2 == no) by rw [Bool.eq_iff_iff]; simp)
  rw [HE.out]
  subst hl2
  by_cases hlen : V1.length = want.length
  · have HL := Lib.hid hlen
    have d1 : ((V1.length : Int) != (want.length : Int)) = false := by rw [bne_eq_false_iff_eq]; omega
    cases h2 : (V2 == no)
    · have h3 : (V2 != no) = true := by rw [bne, h2]; rfl
      rw [Bool.and_false]
      clear hlen
      go_enter Try.func26, Try.ntmps26
      go_wp2_with fail
      refine HC.out.mono ?_
      rintro e w1 ⟨hb, A3, c3, c4, c5, hr3, rfl⟩
      clear hr3
      go_wp2_with fail
      go_ret
      exact ⟨rfl, hb⟩
    · have h3 : (V2 != no) = false := by rw [bne, h2]; rfl
      rw [Bool.and_true]
      obtain ⟨X, hX⟩ : ∃ X, decide (V1 = want) = X := ⟨_, rfl⟩
      rw [hX]
      have HX := Lib.hid hX
      clear hX hlen
      go_enter Try.func26, Try.ntmps26
      go_wp2_with fail
      refine HC.out.mono ?_
      rintro e w1 ⟨hb, A3, c3, c4, c5, hr3, rfl⟩
      have hr4 := hr2.keep (Ch.of_below hb (fun _ => False)) (fun _ _ _ e => e)
      have HV := Lib.hid HLE.out
      go_wp2_with fail
      go_loopw [30] (fun v wr => ∃ k : Nat, k ≤ V1.length ∧ v = .int .i64 k ∧ (∀ j, j < k → V1[j]? = want[j]?) ∧ Below w1.heap.size w1 wr) (fun v _ => V1.length - (intOf v).toNat)
      case atStart => exact ⟨0, Nat.zero_le _, rfl, fun j hj => (by omega), Below.refl _ _⟩
      case round =>
        obtain ⟨k, hk, rfl, hall, hbk⟩ := hrel
        have HA := Lib.hid hall
        clear hall
        by_cases hlt : k < V1.length
        · have hlt2 : k < want.length := by have := HL.out; omega
          obtain ⟨b1, o1, rfl, _, f0⟩ := rd_int (hr3.keep (Ch.of_below hbk (fun _ => False)) (fun _ _ _ e => e)) hlt
          obtain ⟨b2, o2, rfl, _, g0⟩ := rd_int (hr4.keep (Ch.of_below hbk (fun _ => False)) (fun _ _ _ e => e)) hlt2
          have hp1 := List.getElem?_eq_getElem hlt
          have hp2 := List.getElem?_eq_getElem hlt2
          obtain ⟨p1, hq1⟩ : ∃ p, V1[k] = p := ⟨_, rfl⟩
          obtain ⟨p2, hq2⟩ : ∃ p, want[k] = p := ⟨_, rfl⟩
          rw [hq1] at hp1
          rw [hq2] at hp2
          rw [List.getD, hp1] at f0
          rw [List.getD, hp2] at g0
          simp only [Option.getD_some] at f0 g0
          have P1 := Lib.hid hp1
          have P2 := Lib.hid hp2
          have i1 : (0 : Int) ≤ k := Int.natCast_nonneg _
          have i2 : (k : Int) < (V1.length : Int) := by omega
          have i4 : (k : Int) < (want.length : Int) := by omega
          clear hp1 hp2 hq1 hq2
          cases hne : (p1 != p2)
          · have HN : Hid (∀ j, j < k + 1 → V1[j]? = want[j]?) := fun j hj => by
              by_cases e : j = k
              · subst e; rw [P1.out, P2.out, bne_eq_false_iff_eq.1 hne]
              · exact HA.out j (by omega)
            go_upto_region 7 with fail
            go_quiet (fail)
            go_wp2_with fail
            go_roundw
            case rel => exact ⟨k + 1, by omega, by go_num, HN.out, by (repeat' (first | (with_reducible exact Below.refl _ _) | (with_reducible assumption) | (with_reducible refine Below.alloc ?_ ?_ _) | (with_reducible refine Below.drew ?_) | (with_reducible refine below_drewN ?_ _) | (with_reducible refine Below.setCell ?_ ?_ _) | (with_reducible refine Below.trans ?_ (Below.mono (by assumption) ?_)) | (first | go_size | (with_reducible exact Below.size (by assumption)) | (with_reducible exact Nat.le_trans (Below.size (by assumption)) (Below.size (by assumption))) | (refine Nat.le_trans (Below.size (by assumption)) ?_; go_size))))⟩
            case measure => simp [intOf]; omega
          · obtain rfl : X = false := by
              rw [← HX.out]
              refine decide_eq_false fun e => ?_
              subst e
              have h7 := P1.out.symm.trans P2.out
              injection h7 with h7
              exact bne_iff_ne.1 hne h7
            go_upto_region 7 with fail
            go_quiet (fail)
            go_wp2_with fail
            go_ret
            exact ⟨rfl, by (repeat' (first | (with_reducible exact Below.refl _ _) | (with_reducible assumption) | (with_reducible refine Below.alloc ?_ ?_ _) | (with_reducible refine Below.drew ?_) | (with_reducible refine below_drewN ?_ _) | (with_reducible refine Below.setCell ?_ ?_ _) | (with_reducible refine Below.trans ?_ (Below.mono (by assumption) ?_)) | (first | go_size | (with_reducible exact Below.size (by assumption)) | (with_reducible exact Nat.le_trans (Below.size (by assumption)) (Below.size (by assumption))) | (refine Nat.le_trans (Below.size (by assumption)) ?_; go_size))))⟩
        · obtain rfl : X = true := by
            rw [← HX.out]
            exact decide_eq_true (take_same HL.out (fun j hj => HA.out j (by omega)))
          obtain rfl : k = V1.length := by omega
          have hbb := hb.trans (hbk.mono hb.size)
          go_wp2_with fail
          go_ret
          exact ⟨rfl, hbb⟩
  · have d1 : ((V1.length : Int) != (want.length : Int)) = true := by rw [bne_iff_ne]; omega
    have d2 : decide (V1 = want) = false := decide_eq_false (fun e => hlen (by rw [e]))
    rw [d2, Bool.false_and]
    clear hlen d2
    go_enter Try.func26, Try.ntmps26
    go_wp2_with fail
    refine HC.out.mono ?_
    rintro e w1 ⟨hb, A3, c3, c4, c5, hr3, rfl⟩
    clear hr3
    go_wp2_with fail
    go_ret
    exact ⟨rfl, hb⟩
theorem llist_ok (v : Value) (w : World) : Calls Try.prog 33 #[v] w fun e w' => e = .returned v ∧ w = w' := by
  go_enter Try.func33, Try.ntmps33
  go_wp2_with fail
  go_ret
  exact ⟨rfl, rfl⟩
end Go.Proofs.Ytpndlggahdefcaa
