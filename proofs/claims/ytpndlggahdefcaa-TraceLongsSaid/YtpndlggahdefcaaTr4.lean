/-
  Contracts of package trace, third part: replay.
-/
import Derived.Test.YtpndlggahdefcaaTr3
namespace Go.Proofs.Ytpndlggahdefcaa
open Go.RowKit
set_option linter.unusedSimpArgs false
set_option linter.unusedVariables false

set_option maxHeartbeats 2000000 in
theorem replay_ok (A B : Option Addr) (ws : List Int) (l : List Dd) (n c m d : Nat) (w : World)
    (hrw : Rd (fun b => b < w.heap.size) w A (u64s ws)) (hlw : ws.length = n) (hn : n ≤ 9223372036854775806) (hc : n ≤ c) (hwfw : ∀ x ∈ ws, 0 ≤ x ∧ x ≤ 18446744073709551615)
    (hr : Rd (fun b => b < w.heap.size) w B (dds l)) (hl : l.length = m) (hm : m ≤ 9223372036854775806) (hwfl : ∀ x ∈ l, x.wf) :
    Calls Try.prog 61 #[.slice A n c, .slice B m d] w (RpPost w ws l) := by
  have hwr := wrong_ok B l m d w hr hl hm
  have HP : Hid (RpPost w ws l = RpPost w ws l) := rfl
  subst hlw
  subst hl
  by_cases hE : wrongF l = 0
  · have H0 := Lib.hid hE
    rw [hE] at hwr
    clear hE
    by_cases h1 : 1 ≤ ws.length ∧ ws.length ≤ 65536
    · go_enter Try.func61, Try.ntmps61
      go_wp2_with (first | (go_at_call 50; refine hwr.mono ?_; rintro e w1 ⟨rfl, hb1⟩) | (go_at_call 9; refine (mnew_ok ws.length _ h1.1 h1.2).mono ?_; rintro e w2 ⟨b, g, rfl, hm, hb, hg, hbl⟩))
      have hbl := hb1.trans (hbl.mono hb1.size)
      have hbw := Nat.le_trans hb1.size hb
      have hgw := Nat.le_trans hb1.size hg
      clear hwr hb hg hb1
      rw [← cur_zero] at hm
      go_loopw [33] (fun v wr => ∃ k : Nat, k ≤ ws.length ∧ v = .int .i64 k ∧ MemAt wr b g ws.length (cur ws k) ∧ Below w.heap.size w wr) (fun v _ => ws.length - (intOf v).toNat)
      case atStart => exact ⟨0, Nat.zero_le _, rfl, hm, hbl⟩
      case round =>
        obtain ⟨k, hk, rfl, hmk, hbk⟩ := hrel
        by_cases hlt : k < ws.length
        · have hrk := hrw.keep (Ch.of_below hbk (fun _ => False)) (fun _ _ _ e => e)
          obtain ⟨b0, o0, rfl, hb0, hcx⟩ := rd_u64 hrk hlt
          have hx := hwfw _ (show ws.getD k 0 ∈ ws by simp [List.getD, List.getElem?_eq_getElem hlt])
          obtain ⟨x, hX⟩ : ∃ x, x = ws.getD k 0 := ⟨_, rfl⟩
          rw [← hX] at hcx hx
          have hk1 : k < (cur ws k).length := by rw [cur_len _ _ hk]; exact hlt
          have HS := Lib.hid (show (cur ws k).set k x = cur ws (k + 1) by rw [hX]; exact cur_set ws k hlt)
          have HEk := doE_in (cur ws k) 2 k (by omega) hk1
          have HW := Lib.hid (doWs_store (cur ws k) k x hk1)
          clear hX
          have i1 : (0 : Int) ≤ k := Int.natCast_nonneg _
          have i2 : (k : Int) < (ws.length : Int) := by omega
          go_wp2_with (go_at_call 10; refine (mstore_any b g ws.length (cur ws k) k x _ hmk hx).mono ?_; rw [HEk, HW.out, HS.out]; rintro e w2 ⟨rfl, hm2, hc2⟩)
          go_roundw
          case rel => exact ⟨k + 1, by omega, by go_num, hm2, hbk.trans (hc2.below (fun j _ e => by omega) hbk.size)⟩
          case measure => simp [intOf]; omega
        · obtain rfl : k = ws.length := by omega
          rw [cur_all] at hmk
          clear hrw hwfw hlt hk hm hbl
          go_wp2_with fail
          go_loopw [45] (fun v wr => ∃ k : Nat, k ≤ l.length ∧ v = .int .i64 k ∧ fitB ws l k = true ∧ MemAt wr b g ws.length (rpW ws (l.take k)) ∧ Below w.heap.size w wr) (fun v _ => l.length - (intOf v).toNat)
          case atStart => exact ⟨0, Nat.zero_le _, rfl, rfl, hmk, hbk⟩
          case round =>
            clear hmk hbk
            obtain ⟨k, hk, rfl, hfit, hmk, hbk⟩ := hrel
            by_cases hlt : k < l.length
            · obtain ⟨dd, hd⟩ : ∃ d, l[k]? = some d := ⟨_, List.getElem?_eq_getElem hlt⟩
              obtain ⟨b0, o, rfl, _, hbl, hcell⟩ := rd_dd (hr.keep (Ch.of_below hbk (fun _ => False)) (fun _ _ _ e => e)) hd
              have hdw := hwfl dd (List.mem_iff_getElem?.2 ⟨k, hd⟩)
              have HF := Lib.hid (fitB_succ ws l k hd)
              have HSN := Lib.hid (show rpW ws (l.take (k + 1)) = stW (rpW ws (l.take k)) dd by rw [take_snoc l k dd hd, rpW_snoc])
              have HL := Lib.hid (rpW_len ws (l.take k))
              have HFIT := Lib.hid hfit
              have HLT := Lib.hid hlt
              generalize hWW : rpW ws (l.take k) = WW at *
              have HWW := Lib.hid hWW
              obtain ⟨t, kd, y, bb, aa, wt, en⟩ := dd
              have c0 := hcell 0 _ rfl
              have c1 := hcell 1 _ rfl
              have c2 := hcell 2 _ rfl
              have c3 := hcell 3 _ rfl
              have c4 := hcell 4 _ rfl
              have c5 := hcell 5 _ rfl
              have c6 := hcell 6 _ rfl
              simp only [Nat.add_zero] at c0
              have haa : 0 ≤ aa ∧ aa ≤ 18446744073709551615 := hdw.2.2.2.2
              have i1 : (0 : Int) ≤ k := Int.natCast_nonneg _
              have i2 : (k : Int) < l.length := by omega
              clear hcell hd hdw hfit hWW hwfl hr
              go_upto_region 15 with fail
              have hbA : Below w.heap.size w (wr.alloc (.cells [.int .i64 t, .int .i64 kd, .int .i64 y, .int .u64 bb, .int .u64 aa, .bool wt, .bool en].toArray 47)) := hbk.alloc hbk.size _
              have hDA := Blk.new wr 47 [.int .i64 t, .int .i64 kd, .int .i64 y, .int .u64 bb, .int .u64 aa, .bool wt, .bool en]
              have hmA := hmk.below ((Below.refl _ _).alloc (Nat.le_refl _) (.cells [.int .i64 t, .int .i64 kd, .int .i64 y, .int .u64 bb, .int .u64 aa, .bool wt, .bool en].toArray 47))
              generalize wr.alloc (.cells [.int .i64 t, .int .i64 kd, .int .i64 y, .int .u64 bb, .int .u64 aa, .bool wt, .bool en].toArray 47) = wa at *
              have d1 := hDA.cell 1
              have d2 := hDA.cell 2
              have d3 := hDA.cell 3
              have d4 := hDA.cell 4
              simp only [List.getElem?_cons_succ, List.getElem?_cons_zero] at d1 d2 d3 d4
              clear hDA hmk hbk hbl c0 c1 c2 c3 c4 c5 c6
              go_upto_region 16 with fail
              have hbB : Below w.heap.size w (wa.alloc (.cells [.int .i64 kd, .int .i64 y, .int .u64 bb, .int .u64 aa].toArray 45)) := hbA.alloc hbA.size _
              have hAC := Blk.new wa 45 [.int .i64 kd, .int .i64 y, .int .u64 bb, .int .u64 aa]
              have hmB := hmA.below ((Below.refl _ _).alloc (Nat.le_refl _) (.cells [.int .i64 kd, .int .i64 y, .int .u64 bb, .int .u64 aa].toArray 45))
              have hgA : g < wa.heap.size := hmA.lt.2
              have hga : ¬ (wa.heap.size = g) := by omega
              generalize wa.alloc (.cells [.int .i64 kd, .int .i64 y, .int .u64 bb, .int .u64 aa].toArray 45) = wb at *
              have a0 := hAC.cell 0
              have a1 := hAC.cell 1
              have a2 := hAC.cell 2
              have a3 := hAC.cell 3
              simp only [List.getElem?_cons_succ, List.getElem?_cons_zero] at a0 a1 a2 a3
              clear hAC hmA hbA d1 d2 d3 d4
              by_cases hk0 : kd = 0
              · subst hk0
                have hF2 : fitB ws l (k + 1) = true := by rw [HF.out, HFIT.out]; rfl
                have hW2 : rpW ws (l.take (k + 1)) = WW := by rw [HSN.out]; rfl
                have HN := Lib.hid (And.intro hF2 hW2)
                clear hF2 hW2
                go_wp2_with fail
                go_roundw
                case rel => exact ⟨k + 1, by omega, by go_num, HN.out.1, by rw [HN.out.2]; exact hmB, hbB⟩
                case measure => simp [intOf]; omega
              · have e0 : (kd == 0) = false := by rw [beq_eq_false_iff_ne]; exact hk0
                have hstF : stF WW ⟨t, kd, y, bb, aa, wt, en⟩ = decide (0 ≤ y ∧ y < WW.length ∧ WW.getD y.toNat 0 = bb) := by unfold stF; rw [decide_eq_decide]; simp [hk0]
                have hstW : stW WW ⟨t, kd, y, bb, aa, wt, en⟩ = WW.set y.toNat aa := by unfold stW; rw [if_neg hk0]
                have hld := fun W (h : MemAt W b g ws.length WW) => mload_any b g ws.length WW y W h
                have hfail : stF WW ⟨t, kd, y, bb, aa, wt, en⟩ = false → ∀ w', MemAt w' b g ws.length WW → Below w.heap.size w w' → RpPost w ws l (.returned (.tuple #[.pointer (some ⟨b, 0, none⟩), .int .i64 k, .int .i64 0])) w' := fun hs w' hm' hb' =>
                  ⟨hb', .inr (.inr ⟨H0.out, h1.1, h1.2, b, g, _, hm', hbw, hgw, .inl ⟨k, HLT.out, HFIT.out, by rw [HF.out, hs, Bool.and_false], HWW.out.symm, rfl⟩⟩)⟩
                have HFAIL := Lib.hid hfail
                have HSTF := Lib.hid hstF
                have HSTW := Lib.hid hstW
                clear hfail hstF hstW
                have hdE : doE WW 1 y = if y < 0 ∨ (WW.length : Int) ≤ y then 3 else 0 := by unfold doE; rw [if_neg (by omega)]
                by_cases hin : y < 0 ∨ (WW.length : Int) ≤ y
                · rw [if_pos hin] at hdE
                  have hdB : doB WW 1 y = 0 := by unfold doB; rw [hdE]; rfl
                  rw [hdE, hdB] at hld
                  have HS := Lib.hid (show stF WW ⟨t, kd, y, bb, aa, wt, en⟩ = false by rw [HSTF.out, decide_eq_false_iff_not]; omega)
                  clear hdE hdB hin
                  have hcall := hld wb hmB
                  clear hld
                  go_wp2_with (go_at_call 68; refine hcall.mono ?_; rintro e w5 ⟨rfl, hm5, hc5⟩)
                  go_ret3
                  exact HFAIL.out HS.out _ (by first | exact hm5 | exact hm5.below (by (repeat' (first | (with_reducible exact Below.refl _ _) | (with_reducible assumption) | (with_reducible refine Below.alloc ?_ ?_ _) | (with_reducible refine Below.drew ?_) | (with_reducible refine below_drewN ?_ _) | (with_reducible refine Below.setCell ?_ ?_ _) | (with_reducible refine Below.trans ?_ (Below.mono (by assumption) ?_)) | (first | go_size | (with_reducible exact Below.size (by assumption)) | (with_reducible exact Nat.le_trans (Below.size (by assumption)) (Below.size (by assumption))) | (refine Nat.le_trans (Below.size (by assumption)) ?_; go_size)))))) (by first | exact hbB.trans (hc5.below (fun j _ e => by omega) hbB.size))
                · rw [if_neg hin] at hdE
                  have hdB : doB WW 1 y = WW.getD y.toNat 0 := by unfold doB; rw [hdE]; rfl
                  obtain ⟨X, hX⟩ : ∃ X, WW.getD y.toNat 0 = X := ⟨_, rfl⟩
                  rw [hdE, hdB, hX] at hld
                  have hcall := hld wb hmB
                  have hyn : y.toNat < WW.length := by omega
                  by_cases hXb : X = bb
                  · have e1 : (X != bb) = false := by rw [bne_eq_false_iff_eq]; exact hXb
                    have hS : stF WW ⟨t, kd, y, bb, aa, wt, en⟩ = true := by rw [HSTF.out, decide_eq_true_iff]; exact ⟨by omega, by omega, hX.trans hXb⟩
                    have HN := Lib.hid (And.intro (show fitB ws l (k + 1) = true by rw [HF.out, HFIT.out, hS]; rfl) (show rpW ws (l.take (k + 1)) = doWs WW 2 y 0 aa by
                      rw [HSN.out, HSTW.out]; unfold doWs; rw [if_pos ⟨by omega, by omega, by omega, by omega, .inl rfl⟩]))
                    clear hS hX hXb hdE hdB hin hld hyn
                    go_wp2_with (first | (go_at_call 68; refine hcall.mono ?_; rintro e w5 ⟨rfl, hm5, hc5⟩; have a1 := hc5.keeps a1 hga; have a2 := hc5.keeps a2 hga; have a3 := hc5.keeps a3 hga) | (go_at_call 10; refine (mstore_any b g ws.length WW y aa _ hm5 haa).mono ?_; rintro e w6 ⟨rfl, hm6, hc6⟩))
                    go_roundw
                    case rel => exact ⟨k + 1, by omega, by go_num, HN.out.1, by rw [HN.out.2]; exact hm6, (hbB.trans (hc5.below (fun j _ e => by omega) hbB.size)).trans (hc6.below (fun j _ e => by omega) (hbB.trans (hc5.below (fun j _ e => by omega) hbB.size)).size)⟩
                    case measure => simp [intOf]; omega
                  · have e1 : (X != bb) = true := by rw [bne_iff_ne]; exact hXb
                    have HS := Lib.hid (show stF WW ⟨t, kd, y, bb, aa, wt, en⟩ = false by rw [HSTF.out, decide_eq_false_iff_not]; exact fun h => hXb (hX.symm.trans h.2.2))
                    clear hX hXb hdE hdB hin hld hyn
                    go_wp2_with (go_at_call 68; refine hcall.mono ?_; rintro e w5 ⟨rfl, hm5, hc5⟩; have a1 := hc5.keeps a1 hga; have a2 := hc5.keeps a2 hga; have a3 := hc5.keeps a3 hga)
                    go_ret3
                    exact HFAIL.out HS.out _ hm5 (hbB.trans (hc5.below (fun j _ e => by omega) hbB.size))
            · obtain rfl : k = l.length := by omega
              rw [List.take_length] at hmk
              go_wp2_with fail
              go_ret3
              exact ⟨hbk, .inr (.inr ⟨H0.out, h1.1, h1.2, b, g, _, hmk, hbw, hgw, .inr ⟨hfit, rfl, rfl⟩⟩)⟩
    · have h2 : ((ws.length : Nat) : Int) < 1 ∨ 65536 < ((ws.length : Nat) : Int) := by omega
      have h3 : ws.length < 1 ∨ 65536 < ws.length := by omega
      have H3 := Lib.hid h3
      clear h1 h3
      go_enter Try.func61, Try.ntmps61
      go_wp2_with (first | (go_at_call 50; refine hwr.mono ?_; rintro e w1 ⟨rfl, hb1⟩) | (go_at_call 9; refine (mnew_bad _ _ h2).mono ?_; rintro e w2 ⟨rfl, rfl⟩))
      go_ret3
      exact ⟨hb1, .inr (.inl ⟨H0.out, H3.out, rfl⟩)⟩
  · have H0 := Lib.hid hE
    obtain ⟨E, hEE⟩ : ∃ E, wrongF l = E := ⟨_, rfl⟩
    rw [hEE] at hwr hE
    have d1 : (E != 0) = true := by rw [bne_iff_ne]; exact hE
    have HE := Lib.hid hEE
    clear hE hEE
    go_enter Try.func61, Try.ntmps61
    go_wp2_with (go_at_call 50; refine hwr.mono ?_; rintro e w1 ⟨rfl, hb1⟩)
    go_ret3
    exact ⟨hb1, .inl ⟨H0.out, by rw [HE.out]; rfl⟩⟩
end Go.Proofs.Ytpndlggahdefcaa
