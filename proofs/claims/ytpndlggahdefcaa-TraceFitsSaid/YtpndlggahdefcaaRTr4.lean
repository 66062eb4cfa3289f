/-
  Contracts of the reference of layer 13, fourth part: Fits.
-/
import Derived.Test.YtpndlggahdefcaaRTr3
namespace Go.Proofs.Ytpndlggahdefcaa
open Go.RowKit
set_option linter.unusedSimpArgs false
set_option linter.unusedVariables false

theorem own_blkU {w : World} {base n : Nat} {v : Value} {xs : List Int} (h : w.ownsRow base 30 1 v n (u64s xs)) (hn : 1 ≤ n) :
    ∃ g c cur, base ≤ g ∧ v = .slice (some ⟨g, 0, none⟩) n c ∧ n ≤ c ∧ c ≤ 9223372036854775807 ∧ Blk w g 30 (u64s xs ++ cur) ∧ xs.length = n := by
  rcases h.2 with ⟨_, h0⟩ | ⟨g, cap, cur, rfl, hg, hc, h1, h2, h3, h4⟩
  · have := h.1
    rw [h0] at this
    simp at this
    omega
  · have hB : Blk w g 30 cur.toList := by unfold Blk; simpa using hc
    refine ⟨g, cap, cur.toList.drop (n * 1), hg, rfl, h1, by unfold maxLen at h2; omega, ?_, by have := h.1; simpa [u64s] using this⟩
    rw [← h4, List.take_append_drop]
    exact hB
theorem u64s_len (xs : List Int) : (u64s xs).length = xs.length := by simp [u64s]
theorem u64s_set (xs : List Int) (k : Nat) (x : Int) : (u64s xs).set k (.int .u64 x) = u64s (xs.set k x) := by simp [u64s, List.map_set]
/-- what Fits returns -/
def FitPost (ws : List Int) (l : List Dd) (k : Nat) : Prop := k ≤ l.length ∧ fitB ws l k = true ∧ (k < l.length → fitB ws l (k + 1) = false)
set_option maxRecDepth 100000 in
set_option maxHeartbeats 2000000 in
theorem rfits_ok (A B : Option Addr) (ws : List Int) (l : List Dd) (n c m d : Nat) (w : World)
    (hrw : Rd (fun b => b < w.heap.size) w A (u64s ws)) (hlw : ws.length = n) (hn : n ≤ 1000000) (hn1 : 1 ≤ n) (hA : A = none → c = 0)
    (hr : Rd (fun b => b < w.heap.size) w B (dds l)) (hl : l.length = m) (hm : m ≤ 1000000) (hR : ∀ x ∈ l, rightB x = true) :
    Calls Try.prog 30 #[.slice A n c, .slice B m d] w fun e w' => Below w.heap.size w w' ∧ ∃ k g c' cur, FitPost ws l k ∧ w.heap.size ≤ g ∧ n ≤ c' ∧ c' ≤ 9223372036854775807 ∧ Blk w' g 30 (u64s (rpW ws (l.take k)) ++ cur) ∧ e = .returned (.tuple #[.slice (some ⟨g, 0, none⟩) n c', .int .i64 k]) := by
  subst hlw
  subst hl
  obtain ⟨i0, hi0, hz0, hz1, hz2⟩ := info_parts u64Info
  have HR := Lib.hid hR
  clear hR
  go_enter Try.func30, Try.ntmps30
  go_upto_region 2 with (at_builtin; refine wpList_append_rd _ rfl _ _ _ rfl (w.heap.size) 30 i0 _ 1 8 Try.underlying22 hi0 hz0 hz1 hz2 rfl (by omega) (.slice none 0 0) 0 [] rfl (own_none _ _ _ _) A ws.length c (u64s ws) rfl hrw hA (by simp [u64s]) (oneCell_ints _ _) (by unfold maxLen; omega) (by omega) (by omega) ?_; intro v1 w1 hown hch hat)
  have hb1 : Below w.heap.size w w1 := hch.below (fun j _ e => by cases e) (Nat.le_refl _)
  rw [Nat.zero_add, List.nil_append] at hown
  obtain ⟨g, c1, cur, hg, rfl, hc1, hcm1, hB, _⟩ := own_blkU hown hn1
  have hr1 := hr.keep (Ch.of_below hb1 (fun _ => False)) (fun _ _ _ e => e)
  have hgl := hB.lt
  clear hown hch hat hrw hA hr
  go_wp2_with fail
  go_loopw [7] (fun v wr => ∃ k : Nat, k ≤ l.length ∧ v = .int .i64 k ∧ fitB ws l k = true ∧ Blk wr g 30 (u64s (rpW ws (l.take k)) ++ cur) ∧ Ch (fun j => j = g) w1 wr) (fun v _ => l.length - (intOf v).toNat)
  case atStart => exact ⟨0, Nat.zero_le _, rfl, rfl, hB, Ch.refl _ _⟩
  case round =>
    clear hB
    obtain ⟨k, hk, rfl, hfit, hB, hC⟩ := hrel
    by_cases hlt : k < l.length
    · obtain ⟨dd, hd⟩ : ∃ d, l[k]? = some d := ⟨_, List.getElem?_eq_getElem hlt⟩
      obtain ⟨b0, o, rfl, hb0, hbl, hcell⟩ := rd_dd (hr1.keep hC (fun b _ e1 e2 => by omega)) hd
      have hdw := rightB_iff.1 (HR.out dd (List.mem_iff_getElem?.2 ⟨k, hd⟩))
      have HF := Lib.hid (fitB_succ ws l k hd)
      have HSN := Lib.hid (show rpW ws (l.take (k + 1)) = stW (rpW ws (l.take k)) dd by rw [take_snoc l k dd hd, rpW_snoc])
      have hL := rpW_len ws (l.take k)
      have HFIT := Lib.hid hfit
      generalize hWW : rpW ws (l.take k) = WW at *
      have HWW := Lib.hid hWW
      clear hWW
      obtain ⟨t, kd, y, bb, aa, wt, en⟩ := dd
      have c1' := hcell 1 _ rfl
      have c2 := hcell 2 _ rfl
      have c3 := hcell 3 _ rfl
      have c4 := hcell 4 _ rfl
      simp only at hdw
      obtain ⟨_, _, _, _, _, _, hdy, _⟩ := hdw
      have i1 : (0 : Int) ≤ k := Int.natCast_nonneg _
      have i2 : (k : Int) < l.length := by omega
      have HR1 := Lib.hid hr1
      have hB1 := hb1.trans (hC.below (fun j _ e => by omega) hb1.size)
      clear hcell hd hfit hr1
      go_upto_region 6 with fail
      have hba : Below wr.heap.size wr (wr.alloc (.cells [.int .i64 kd, .int .i64 y, .int .u64 bb, .int .u64 aa].toArray 45)) := (Below.refl _ _).alloc (Nat.le_refl _) _
      have hBA := hB.keep (Ch.of_below hba (fun _ => False)) (fun e => e)
      have hCA2 := hB1.trans (hba.mono hB1.size)
      have hCA := hC.trans (Ch.of_below hba (fun j => j = g)) (fun _ _ e => e)
      have hAC := Blk.new wr 45 [.int .i64 kd, .int .i64 y, .int .u64 bb, .int .u64 aa]
      generalize wr.alloc (.cells [.int .i64 kd, .int .i64 y, .int .u64 bb, .int .u64 aa].toArray 45) = wa at *
      generalize wr.heap.size = XB at *
      have a0 := hAC.cell 0
      have a1 := hAC.cell 1
      have a2 := hAC.cell 2
      have a3 := hAC.cell 3
      simp only [List.getElem?_cons_succ, List.getElem?_cons_zero] at a0 a1 a2 a3
      clear hB hC hba c1' c2 c3 c4 hbl
      by_cases hk0 : kd = 0
      · subst hk0
        have HN := Lib.hid (And.intro (show fitB ws l (k + 1) = true by rw [HF.out, HFIT.out]; rfl) (show rpW ws (l.take (k + 1)) = WW by rw [HSN.out]; rfl))
        go_wp2_with fail
        go_roundw
        case rel => exact ⟨k + 1, by omega, by go_num, HN.out.1, by rw [HN.out.2]; exact hBA, hCA⟩
        case measure => simp [intOf]; omega
      · have e0 : (kd == 0) = false := by rw [beq_eq_false_iff_ne]; exact hk0
        have hy0 : 0 ≤ y := by omega
        have hstF : stF WW ⟨t, kd, y, bb, aa, wt, en⟩ = decide (y < WW.length ∧ WW.getD y.toNat 0 = bb) := by unfold stF; rw [decide_eq_decide]; simp [hk0, hy0]
        have hstW : stW WW ⟨t, kd, y, bb, aa, wt, en⟩ = WW.set y.toNat aa := by unfold stW; rw [if_neg hk0]
        have HSTF := Lib.hid hstF
        have HSTW := Lib.hid hstW
        clear hstF hstW hdy hk0
        obtain ⟨yn, rfl⟩ : ∃ yn : Nat, y = yn := ⟨y.toNat, by omega⟩
        rw [Int.toNat_natCast] at HSTF HSTW
        by_cases hin : yn < ws.length
        · have d1 : decide ((yn : Int) ≥ (ws.length : Int)) = false := decide_eq_false (by omega)
          have d2 : (yn : Int) < ws.length := by omega
          have hcl := hBA.cell yn
          rw [List.getElem?_append_left (by rw [u64s_len]; omega), u64s_at WW yn (by omega)] at hcl
          obtain ⟨X, hX⟩ : ∃ X, WW.getD yn 0 = X := ⟨_, rfl⟩
          rw [hX] at hcl
          have hfz := hBA.frozen yn
          by_cases hXb : X = bb
          · have e1 : (X != bb) = false := by rw [bne_eq_false_iff_eq]; exact hXb
            have HN := Lib.hid (And.intro (show fitB ws l (k + 1) = true by rw [HF.out, HFIT.out, HSTF.out, decide_eq_true ⟨by omega, hX.trans hXb⟩]; rfl) (show rpW ws (l.take (k + 1)) = WW.set yn aa by rw [HSN.out, HSTW.out]))
            have hne : ¬ XB = g := fun e => by subst e; exact Blk.ne hAC hBA (by decide) rfl
            have hset := hBA.set yn (.int .u64 aa)
            rw [List.set_append_left _ _ (by rw [u64s_len]; omega), u64s_set] at hset
            have hCS := hCA.setCell (p := ⟨g, yn, none⟩) (.inl rfl) (.int .u64 aa)
            have HSET := Lib.hid (And.intro hset hCS)
            clear hset hCS hX hXb
            go_upto_region 7 with fail
            go_quiet (fail)
            go_wp2_with fail
            go_roundw
            case rel => exact ⟨k + 1, by omega, by go_num, HN.out.1, by rw [HN.out.2]; exact HSET.out.1, (hCA.drewN _).setCell (.inl rfl) _⟩
            case measure => simp [intOf]; omega
          · have e1 : (X != bb) = true := by rw [bne_iff_ne]; exact hXb
            have HN := Lib.hid (show FitPost ws l k from ⟨by omega, HFIT.out, fun _ => by rw [HF.out, HSTF.out, decide_eq_false (fun h => hXb (hX.symm.trans h.2)), Bool.and_false]⟩)
            clear hX hXb
            go_upto_region 7 with fail
            go_quiet (fail)
            go_wp2_with fail
            go_ret2
            exact ⟨below_drewN hCA2 _, k, g, c1, cur, HN.out, hg, hc1, hcm1, by rw [HWW.out]; exact hBA, rfl⟩
        · have d1 : decide ((yn : Int) ≥ (ws.length : Int)) = true := decide_eq_true (by omega)
          have HN := Lib.hid (show FitPost ws l k from ⟨by omega, HFIT.out, fun _ => by rw [HF.out, HSTF.out, decide_eq_false (fun h => by omega), Bool.and_false]⟩)
          go_upto_region 7 with fail
          go_quiet (fail)
          go_wp2_with fail
          go_ret2
          exact ⟨below_drewN hCA2 _, k, g, c1, cur, HN.out, hg, hc1, hcm1, by rw [HWW.out]; exact hBA, rfl⟩
    · obtain rfl : k = l.length := by omega
      have HF := Lib.hid (show FitPost ws l l.length from ⟨Nat.le_refl _, hfit, fun h => (by omega)⟩)
      have hB1 := hb1.trans (hC.below (fun j _ e => by omega) hb1.size)
      clear hfit
      go_wp2_with fail
      go_ret2
      exact ⟨hB1, _, g, c1, cur, HF.out, hg, hc1, hcm1, hB, rfl⟩
end Go.Proofs.Ytpndlggahdefcaa
