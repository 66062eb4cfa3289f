/-
  The walk of TraceFits: it returns true for every list of things and every words.
-/
import Derived.Test.YtpndlggahdefcaaK13
import Derived.Test.YtpndlggahdefcaaRTr4
namespace Go.Proofs.Ytpndlggahdefcaa
open Go.RowKit
set_option linter.unusedSimpArgs false
set_option linter.unusedVariables false
namespace TraceFits

theorem wrong_valid {l : List Dd} (h : l.length ≤ 60) : (validB l = true → wrongF l = 0) ∧ (validB l = false → wrongF l = 2) := by
  unfold wrongF
  rw [if_neg (by omega)]
  refine ⟨fun h => ?_, fun h => ?_⟩
  · rw [if_pos h]
  · rw [h]; rfl
theorem right_all {l : List Dd} (h : wrongF l = 0) : ∀ d ∈ l, rightB d = true := wf_right h
theorem ck_bad {ws : List Int} {l : List Dd} (hl : l.length ≤ 60) (h : validB l = false ∨ ws = []) : ckV ws l = (0, 2) ∧ ryV ws l = ([], 2) := by
  cases hv : validB l
  · have hw := (wrong_valid hl).2 hv
    unfold ckV ryV
    rw [hw]
    exact ⟨rfl, rfl⟩
  · have hw := (wrong_valid hl).1 hv
    obtain rfl : ws = [] := by
      rcases h with h | h
      · rw [hv] at h; cases h
      · exact h
    unfold ckV ryV
    rw [hw]
    exact ⟨rfl, rfl⟩
theorem ck_part {ws : List Int} {l : List Dd} {k : Nat} (hl : l.length ≤ 60) (hv : validB l = true) (h1 : 1 ≤ ws.length) (h2 : ws.length ≤ 40) (hp : FitPost ws l k) (hk : k < l.length) : ckV ws l = ((k : Int), 0) ∧ ryV ws l = ([], 10) := by
  have hw := (wrong_valid hl).1 hv
  obtain ⟨p1, p2, p3⟩ := hp
  have hn : ¬ fitB ws l l.length = true := fun h => by
    have := fitB_mono ws l (k + 1) l.length (by omega) h
    rw [p3 hk] at this
    cases this
  unfold ckV ryV
  rw [if_neg (by omega), if_neg (by omega), if_neg hn, if_neg (by omega), if_neg (by omega), if_neg hn, fitN_eq ws l k p2 (p3 hk) _ (by omega)]
  exact ⟨rfl, rfl⟩
theorem ck_whole {ws : List Int} {l : List Dd} {k : Nat} (hl : l.length ≤ 60) (hv : validB l = true) (h1 : 1 ≤ ws.length) (h2 : ws.length ≤ 40) (hp : FitPost ws l k) (hk : ¬ k < l.length) : ckV ws l = (-1, 0) ∧ ryV ws l = (rpW ws (l.take k), 0) := by
  have hw := (wrong_valid hl).1 hv
  obtain ⟨p1, p2, p3⟩ := hp
  obtain rfl : k = l.length := by omega
  unfold ckV ryV
  rw [if_neg (by omega), if_neg (by omega), if_pos p2, if_neg (by omega), if_neg (by omega), if_pos p2, List.take_length]
  exact ⟨rfl, rfl⟩
theorem wf_words {xs : List Int} (h : ∀ x ∈ xs, (Lit.int .u64 x).wf = true) : ∀ x ∈ xs, 0 ≤ x ∧ x ≤ 18446744073709551615 := fun x hx => wf_u64 (h x hx)
/-- words and things that were copied -/
structure Cp (w : World) (ws : List Int) (l : List Dd) (A B : Option Addr) (c d : Nat) (wr : World) : Prop where
  below : Below w.heap.size w wr
  rw' : Rd (fun _ => True) wr A (u64s ws)
  rl : Rd (fun _ => True) wr B (dds l)
  c1 : ws.length ≤ c
  c2 : c ≤ 9223372036854775807
  d1 : l.length ≤ d
  d2 : d ≤ 9223372036854775807
theorem Cp.next {w wr w' : World} {ws : List Int} {l : List Dd} {A B : Option Addr} {c d : Nat} (h : Cp w ws l A B c d wr) (hb : Below wr.heap.size wr w') : Cp w ws l A B c d w' :=
  ⟨h.below.trans (hb.mono h.below.size), h.rw'.keep (Ch.of_below hb (fun _ => False)) (fun _ _ _ e => e), h.rl.keep (Ch.of_below hb (fun _ => False)) (fun _ _ _ e => e), h.c1, h.c2, h.d1, h.d2⟩
theorem Cp.checks {w wr : World} {ws : List Int} {l : List Dd} {A B : Option Addr} {c d : Nat} (h : Cp w ws l A B c d wr) (hl : l.length ≤ 60) (hw : ws.length ≤ 40) (h1 : ∀ x ∈ ws, 0 ≤ x ∧ x ≤ 18446744073709551615) (h2 : ∀ x ∈ l, x.wf) {want no : Int} (hv : ckV ws l = (want, no)) :
    Calls Try.prog 19 #[.slice A ws.length c, .slice B l.length d, .int .i64 want, .int .i64 no] wr fun e w' => e = .returned (.bool true) ∧ Cp w ws l A B c d w' ∧ Below wr.heap.size wr w' :=
  (lchecks_ok A B ws l ws.length c l.length d want no wr (h.rw'.mono (fun b hb _ => hb)) rfl (by omega) h.c1 h1 (h.rl.mono (fun b hb _ => hb)) rfl (by omega) h2).mono fun _ _ ⟨e1, e2⟩ => ⟨by rw [e1, hv, decide_eq_true rfl], h.next e2, e2⟩
theorem Cp.replays {w wr : World} {ws : List Int} {l : List Dd} {A B : Option Addr} {c d : Nat} (h : Cp w ws l A B c d wr) (hl : l.length ≤ 60) (hw : ws.length ≤ 40) (h1 : ∀ x ∈ ws, 0 ≤ x ∧ x ≤ 18446744073709551615) (h2 : ∀ x ∈ l, x.wf) {A2 : Option Addr} {want : List Int} {n2 c2 : Nat} {no : Int} (hv : ryV ws l = (want, no))
    (h3 : Rd (fun _ => True) wr A2 (u64s want)) (h4 : want.length = n2) (h5 : n2 ≤ 100000) (h6 : n2 ≤ c2) :
    Calls Try.prog 20 #[.slice A ws.length c, .slice B l.length d, .slice A2 n2 c2, .int .i64 no] wr fun e w' => e = .returned (.bool true) ∧ Cp w ws l A B c d w' ∧ Below wr.heap.size wr w' :=
  (lreplays_ok A B A2 ws want l ws.length c l.length d n2 c2 no wr (h.rw'.mono (fun b hb _ => hb)) rfl (by omega) h.c1 h1 (h.rl.mono (fun b hb _ => hb)) rfl (by omega) h2 h3 h4 h5 h6).mono fun _ _ ⟨e1, e2⟩ => ⟨by rw [e1, hv, decide_eq_true rfl], h.next e2, e2⟩
set_option maxRecDepth 100000 in
set_option maxHeartbeats 4000000 in
theorem walk (A0 : Option Addr) (n0 c0 : Nat) (x0 : List Int) (l0 : x0.length = n0) (m0 : n0 ≤ c0) (b0 : c0 ≤ 9223372036854775807) (z0 : A0 = none → c0 = 0)
    (A1 : Option Addr) (n1 c1 : Nat) (x1 : List (List Value)) (l1 : x1.length = n1) (m1 : n1 ≤ c1) (b1 : c1 ≤ 9223372036854775807) (z1 : A1 = none → c1 = 0) (w : World)
    (r0 : Rd (fun b => b < w.heap.size) w A0 (x0.map (Value.int .u64))) (y0 : ∀ x ∈ x0, (Lit.int .u64 x).wf = true) (r1 : Rd (fun b => b < w.heap.size) w A1 x1.flatten) (y1 : ∀ r ∈ x1, Fit ddLeaf r) :
    Calls Try.prog 5 #[.slice A0 n0 c0, .slice A1 n1 c1] w fun e w' => e = .returned (.bool true) ∧ Below w.heap.size w w' := by
  obtain ⟨l, rfl, hwf⟩ := dds_of y1
  rw [List.length_map] at l1
  subst l1
  subst l0
  have hr : Rd (fun b => b < w.heap.size) w A1 (dds l) := r1
  have hrw : Rd (fun b => b < w.heap.size) w A0 (u64s x0) := r0
  have HWF := Lib.hid hwf
  have HY0 := Lib.hid (wf_words y0)
  clear r0 r1 y0 y1 hwf
  by_cases hs : x0.length > 40 ∨ l.length > 60
  · have hk := known_ok w
    clear hr hrw
    rcases hs with hs | hs
    · have d1 : decide ((x0.length : Int) > 40) = true := decide_eq_true (by omega)
      go_enter Try.func5, Try.ntmps5
      go_wp2_with fail
      refine hk.mono ?_
      rintro e w1 ⟨rfl, hb⟩
      go_wp2_with fail
      go_ret
      exact ⟨rfl, hb⟩
    · by_cases hs1 : x0.length > 40
      · have d1 : decide ((x0.length : Int) > 40) = true := decide_eq_true (by omega)
        go_enter Try.func5, Try.ntmps5
        go_wp2_with fail
        refine hk.mono ?_
        rintro e w1 ⟨rfl, hb⟩
        go_wp2_with fail
        go_ret
        exact ⟨rfl, hb⟩
      · have d1 : decide ((x0.length : Int) > 40) = false := decide_eq_false (by omega)
        have d2 : decide ((l.length : Int) > 60) = true := decide_eq_true (by omega)
        go_enter Try.func5, Try.ntmps5
        go_wp2_with fail
        refine hk.mono ?_
        rintro e w1 ⟨rfl, hb⟩
        go_wp2_with fail
        go_ret
        exact ⟨rfl, hb⟩
  · have d1 : decide ((x0.length : Int) > 40) = false := decide_eq_false (by omega)
    have d2 : decide ((l.length : Int) > 60) = false := decide_eq_false (by omega)
    have hx40 : x0.length ≤ 40 := by omega
    have hl60 : l.length ≤ 60 := by omega
    obtain ⟨i0, hi0, hz0, hz1, hz2⟩ := info_parts u64Info
    obtain ⟨i1, hi1, hy0, hy1, hy2⟩ := info_parts ddInfo
    clear hs
    go_enter Try.func5, Try.ntmps5
    go_upto_region 3 with fail
    go_cut [5, 6] (fun s5 s6 wx => ∃ A B c d, s5 = .slice A x0.length c ∧ s6 = .slice B l.length d ∧ Cp w x0 l A B c d wx)
    case first =>
      go_wp2_with (at_builtin; refine wpList_append_rd _ rfl _ _ _ rfl (w.heap.size) 30 i0 _ 1 8 Try.underlying22 hi0 hz0 hz1 hz2 rfl (by omega) (.slice none 0 0) 0 [] rfl (own_none _ _ _ _) A0 x0.length c0 (u64s x0) rfl hrw z0 (by simp [u64s]) (oneCell_ints _ _) (by unfold maxLen; omega) (by omega) (by omega) ?_)
      intro v1 w1 hown hch hat
      have hb1 : Below w.heap.size w w1 := hch.below (fun j _ e => by cases e) (Nat.le_refl _)
      obtain ⟨A, c, rfl, q1, q2, q3⟩ := own_rd hown
      have hr1 := hr.keep (Ch.of_below hb1 (fun _ => False)) (fun _ _ _ e => e)
      have hs1 := hb1.size
      clear hown hch hat
      go_wp2_with (at_builtin; refine wpList_append_rd _ rfl _ _ _ rfl (w1.heap.size) 47 i1 _ 7 48 Try.underlying42 hi1 hy0 hy1 hy2 rfl (by omega) (.slice none 0 0) 0 [] rfl (own_none _ _ _ _) A1 l.length c1 (dds l) rfl hr1 z1 (dds_len l) (dds_oneC l) (by unfold maxLen; omega) (by omega) (by omega) ?_)
      intro v2 w2 hown hch hat
      have hb2 : Below w1.heap.size w1 w2 := hch.below (fun j _ e => by cases e) (Nat.le_refl _)
      obtain ⟨B, d, rfl, p1, p2, p3⟩ := own_rd hown
      have hfin : Cp w x0 l A B c d w2 := ⟨hb1.trans (hb2.mono hb1.size), q3.keep (Ch.of_below hb2 (fun _ => False)) (fun _ _ _ e => e), p3, q1, q2, p1, p2⟩
      clear hown hch hat q3 p3 hr1
      go_wp2_with fail
      go_meet
      exact ⟨A, B, c, d, rfl, rfl, hfin⟩
    case rest =>
      obtain ⟨A, B, c, d, rfl, rfl, hC⟩ := hcut
      have hv := rvalid_ok A1 l l.length c1 wc ((hr.keep (Ch.of_below hC.below (fun _ => False)) (fun _ _ _ e => e)).mono (fun b hb _ => hb)) rfl (by omega)
      have HR := Lib.hid hr
      have HRW := Lib.hid hrw
      clear hr hrw hi0 hz0 hz1 hz2 hi1 hy0 hy1 hy2 i0 i1
      by_cases hbad : validB l = false ∨ x0 = []
      · obtain ⟨k1, k2⟩ := ck_bad (ws := x0) hl60 hbad
        have K1 := Lib.hid k1
        have K2 := Lib.hid k2
        clear k1 k2
        cases hvb : validB l
        · rw [hvb] at hv
          clear hvb hbad
          go_wp2_with (go_at_call 24; refine hv.mono ?_; rintro e w1 ⟨rfl, hb1⟩)
          have hC1 := hC.next hb1
          clear hv hb1 hC
          refine (hC1.checks hl60 hx40 HY0.out HWF.out K1.out).mono ?_
          rintro e w2 ⟨rfl, hC2, hbb2⟩
          go_wp2_with fail
          refine (hC2.replays (n2 := 0) (c2 := 0) hl60 hx40 HY0.out HWF.out K2.out rd_none rfl (by omega) (by omega)).mono ?_
          rintro e w3 ⟨rfl, hC3, -⟩
          clear hC1 hC2
          go_wp2_with fail
          refine (known_ok _).mono ?_
          rintro e w4 ⟨rfl, hb4⟩
          have hbf := (hC3.next hb4).below
          clear hC3 hb4
          go_wp2_with fail
          go_ret
          exact ⟨rfl, hbf⟩
        · rw [hvb] at hv
          obtain rfl : x0 = [] := by
            rcases hbad with h | h
            · rw [hvb] at h; cases h
            · exact h
          clear hvb hbad
          go_wp2_with (go_at_call 24; refine hv.mono ?_; rintro e w1 ⟨rfl, hb1⟩)
          have hC1 := hC.next hb1
          clear hv hb1 hC
          refine (hC1.checks hl60 hx40 HY0.out HWF.out K1.out).mono ?_
          rintro e w2 ⟨rfl, hC2, hbb2⟩
          go_wp2_with fail
          refine (hC2.replays (n2 := 0) (c2 := 0) hl60 hx40 HY0.out HWF.out K2.out rd_none rfl (by omega) (by omega)).mono ?_
          rintro e w3 ⟨rfl, hC3, -⟩
          clear hC1 hC2
          go_wp2_with fail
          refine (known_ok _).mono ?_
          rintro e w4 ⟨rfl, hb4⟩
          have hbf := (hC3.next hb4).below
          clear hC3 hb4
          go_wp2_with fail
          go_ret
          exact ⟨rfl, hbf⟩
      · have hvb : validB l = true := by
          cases h : validB l
          · exact absurd (.inl h) hbad
          · rfl
        have hx1 : 1 ≤ x0.length := by
          cases x0 with
          | nil => exact absurd (.inr rfl) hbad
          | cons x r => simp
        have e0 : ((x0.length : Int) == 0) = false := by rw [beq_eq_false_iff_ne]; omega
        have HVB := Lib.hid hvb
        rw [hvb] at hv
        clear hbad hvb
        go_upto_region 6 with (go_at_call 24; refine hv.mono ?_; rintro e w1 ⟨rfl, hb1⟩)
        have hC1 := hC.next hb1
        have hft := rfits_ok A0 A1 x0 l x0.length c0 l.length c1 w1 ((HRW.out.keep (Ch.of_below hC1.below (fun _ => False)) (fun _ _ _ e => e)).mono (fun b hb _ => hb)) rfl (by omega) hx1 z0 ((HR.out.keep (Ch.of_below hC1.below (fun _ => False)) (fun _ _ _ e => e)).mono (fun b hb _ => hb)) rfl (by omega) (right_all ((wrong_valid hl60).1 HVB.out))
        clear hv hb1 hC
        go_upto_region 7 with (go_at_call 30; refine hft.mono ?_; rintro e w5 ⟨hb5, k, g, cg, cur, hP, hg, hcg, hcm, hB, rfl⟩)
        have hC2' := hC1.next hb5
        have HP := Lib.hid hP
        clear hft hC1 hP
        have hC1 := hC2'
        clear hC2'
        by_cases hk : k < l.length
        · have i3 : (k : Int) < (l.length : Int) := by omega
          have hkk := ck_part hl60 HVB.out hx1 hx40 HP.out hk
          have K1 := Lib.hid hkk.1
          have K2 := Lib.hid hkk.2
          clear hkk hB
          go_wp2_with fail
          refine (hC1.checks hl60 hx40 HY0.out HWF.out K1.out).mono ?_
          rintro e w2 ⟨rfl, hC2, hbb2⟩
          go_wp2_with fail
          refine (hC2.replays (n2 := 0) (c2 := 0) hl60 hx40 HY0.out HWF.out K2.out rd_none rfl (by omega) (by omega)).mono ?_
          rintro e w3 ⟨rfl, hC3, -⟩
          clear hC1 hC2
          go_wp2_with fail
          refine (known_ok _).mono ?_
          rintro e w4 ⟨rfl, hb4⟩
          have hbf := (hC3.next hb4).below
          clear hC3 hb4
          go_wp2_with fail
          go_ret
          exact ⟨rfl, hbf⟩
        · have i3 : ¬ (k : Int) < (l.length : Int) := by omega
          have hkk := ck_whole hl60 HVB.out hx1 hx40 HP.out hk
          have K1 := Lib.hid hkk.1
          have K2 := Lib.hid hkk.2
          have hRg : Rd (fun _ => True) w5 (some ⟨g, 0, none⟩) (u64s (rpW x0 (l.take k))) := Rd.of_blk hB (List.prefix_append _ _) trivial
          have HRG := Lib.hid hRg
          have HLE := Lib.hid (rpW_len x0 (l.take k))
          clear hkk hB hRg
          go_wp2_with fail
          have hck9 := hC1.checks (want := -1) (no := 0) hl60 hx40 HY0.out HWF.out K1.out
          refine hck9.mono ?_
          rintro e w2 ⟨rfl, hC2, hbb2⟩
          go_wp2_with fail
          refine (hC2.replays hl60 hx40 HY0.out HWF.out K2.out (HRG.out.keep (Ch.of_below hbb2 (fun _ => False)) (fun _ _ _ e => e)) HLE.out (by omega) hcg).mono ?_
          rintro e w3 ⟨rfl, hC3, -⟩
          clear hC1 hC2 hck9
          go_wp2_with fail
          have hsw := rsame_any A A0 x0 x0 x0.length x0.length c c0 w3 hC3.rw' (HRW.out.keep (Ch.of_below hC3.below (fun _ => False)) (fun _ _ _ e => e) |>.mono (fun _ _ _ => trivial)) rfl rfl (by omega) (by omega) hC3.c1 m0
          rw [show eqB x0 x0 = true by simp [eqB]] at hsw
          refine hsw.mono ?_
          rintro e w6 ⟨rfl, q, hq⟩
          have hC3 := hC3.next (show Below w3.heap.size w3 w6 by rw [hq]; exact below_drewN (Below.refl _ _) q)
          clear hsw hq
          go_wp2_with fail
          have hsl := rsameD_ok B A1 l l l.length l.length d c1 w6 hC3.rl (HR.out.keep (Ch.of_below hC3.below (fun _ => False)) (fun _ _ _ e => e) |>.mono (fun _ _ _ => trivial)) rfl rfl (by omega) (by omega) hC3.d1 m1
          rw [decide_eq_true rfl] at hsl
          refine hsl.mono ?_
          rintro e w7 ⟨rfl, hb7⟩
          have hC3 := hC3.next hb7
          clear hsl hb7
          go_wp2_with fail
          refine (known_ok _).mono ?_
          rintro e w4 ⟨rfl, hb4⟩
          have hbf := (hC3.next hb4).below
          clear hC3 hb4
          go_wp2_with fail
          go_ret
          exact ⟨rfl, hbf⟩
end TraceFits
end Go.Proofs.Ytpndlggahdefcaa
