/-
  Contracts of the reference of layer 13, third part: before, Of, Valid, Fits.
-/
import Derived.Test.YtpndlggahdefcaaRTr2
import Derived.Test.YtpndlggahdefcaaTr3
namespace Go.Proofs.Ytpndlggahdefcaa
open Go.RowKit
set_option linter.unusedSimpArgs false
set_option linter.unusedVariables false

/-- v is the index of what the thread did last before i, or -1 -/
def BefP (l : List Dd) (t : Int) (i : Nat) (V v : Int) : Prop := (v = -1 ∧ V = -1) ∨ ∃ (k : Nat) (x : Dd), v = k ∧ k < i ∧ l[k]? = some x ∧ V = atB x
set_option maxHeartbeats 1000000 in
theorem rbefore_ok (A : Option Addr) (l : List Dd) (n c i : Nat) (d : Dd) (w : World) (hr : Rd (fun _ => True) w A (dds l)) (hl : l.length = n) (hn : n ≤ 1000000) (hd : l[i]? = some d) :
    Calls Try.prog 58 #[.slice A n c, .int .i64 i] w fun e w' => Below w.heap.size w w' ∧ ∃ v : Int, e = .returned (.int .i64 v) ∧ BefP l d.t i (lastAt l d.t i) v := by
  subst hl
  have hi : i < l.length := (List.getElem?_eq_some_iff.1 hd).1
  obtain ⟨t, ht⟩ : ∃ t, d.t = t := ⟨_, rfl⟩
  rw [ht]
  obtain ⟨V, hV⟩ : ∃ V, lastAt l t i = V := ⟨_, rfl⟩
  rw [hV]
  have HV := Lib.hid hV
  have HD := Lib.hid hd
  obtain ⟨b0, o, rfl, _, _, _⟩ := rd_dd hr hd
  clear hV hd
  have i1 : (0 : Int) ≤ i := Int.natCast_nonneg _
  have i2 : (i : Int) < (l.length : Int) := by omega
  go_enter Try.func58, Try.ntmps58
  go_wp2_with fail
  go_loopw [5] (fun v wr => ∃ m : Nat, m ≤ i ∧ v = .int .i64 ((m : Int) - 1) ∧ lastAt l t m = V ∧ Below w.heap.size w wr) (fun v _ => (intOf v + 1).toNat)
  case atStart => exact ⟨i, Nat.le_refl _, rfl, HV.out, Below.refl _ _⟩
  case round =>
    obtain ⟨m, hm, rfl, hlm, hb⟩ := hrel
    have HLM := Lib.hid hlm
    clear hlm
    have hr2 := hr.keep (Ch.of_below hb (fun _ => False)) (fun _ _ _ e => e)
    cases m with
    | zero =>
      have HZ := Lib.hid (show V = -1 from HLM.out.symm)
      clear hr2 hr
      go_wp2_with fail
      go_ret
      exact ⟨hb, -1, rfl, .inl ⟨rfl, HZ.out⟩⟩
    | succ m =>
      obtain ⟨x, hx⟩ : ∃ d, l[m]? = some d := ⟨_, List.getElem?_eq_getElem (by omega)⟩
      have HX := Lib.hid hx
      have HS := Lib.hid (lastAt_succ l t m hx)
      obtain ⟨b1, o1, hA1, _, _, hc1⟩ := rd_dd hr2 hx
      obtain ⟨b2, o2, hA2, _, _, hc2⟩ := rd_dd hr2 HD.out
      injection hA1 with hA1
      injection hA1 with e1 e2
      subst e1 e2
      injection hA2 with hA2
      injection hA2 with e1 e2
      subst e1 e2
      obtain ⟨t', kd', y', bb', aa', wt', en'⟩ := x
      have c0 := hc1 0 _ rfl
      have g0 := hc2 0 _ rfl
      simp only [Nat.add_zero] at c0 g0
      rw [ht] at g0
      have j0 : ((m + 1 : Nat) : Int) - 1 = m := by omega
      rw [j0]
      have j1 : (0 : Int) ≤ m := Int.natCast_nonneg _
      have j2 : (m : Int) < (l.length : Int) := by omega
      simp only at HS
      clear hr2 hc1 hc2 hx j0
      by_cases hq : t' = t
      · have e1 : (t' == t) = true := by rw [beq_iff_eq]; exact hq
        have HN := Lib.hid (show V = atB ⟨t', kd', y', bb', aa', wt', en'⟩ by rw [← HLM.out, HS.out, if_pos hq])
        clear hq
        go_upto_region 4 with fail
        go_quiet (fail)
        go_wp2_with fail
        go_ret
        exact ⟨by (repeat' (first | (with_reducible exact Below.refl _ _) | (with_reducible assumption) | (with_reducible refine Below.alloc ?_ ?_ _) | (with_reducible refine Below.drew ?_) | (with_reducible refine below_drewN ?_ _) | (with_reducible refine Below.setCell ?_ ?_ _) | (with_reducible refine Below.trans ?_ (Below.mono (by assumption) ?_)) | (first | go_size | (with_reducible exact Below.size (by assumption)) | (with_reducible exact Nat.le_trans (Below.size (by assumption)) (Below.size (by assumption))) | (refine Nat.le_trans (Below.size (by assumption)) ?_; go_size)))), m, rfl, .inr ⟨m, _, rfl, by omega, HX.out, HN.out⟩⟩
      · have e1 : (t' == t) = false := by rw [beq_eq_false_iff_ne]; exact hq
        have HN := Lib.hid (show lastAt l t m = V by rw [← HLM.out, HS.out, if_neg hq])
        clear hq
        go_upto_region 4 with fail
        go_quiet (fail)
        go_wp2_with fail
        go_roundw
        case rel => exact ⟨m, by omega, rfl, HN.out, by (repeat' (first | (with_reducible exact Below.refl _ _) | (with_reducible assumption) | (with_reducible refine Below.alloc ?_ ?_ _) | (with_reducible refine Below.drew ?_) | (with_reducible refine below_drewN ?_ _) | (with_reducible refine Below.setCell ?_ ?_ _) | (with_reducible refine Below.trans ?_ (Below.mono (by assumption) ?_)) | (first | go_size | (with_reducible exact Below.size (by assumption)) | (with_reducible exact Nat.le_trans (Below.size (by assumption)) (Below.size (by assumption))) | (refine Nat.le_trans (Below.size (by assumption)) ?_; go_size))))⟩
        case measure => first | (simp [intOf]; done) | (simp [intOf]; omega)
set_option maxRecDepth 100000 in
set_option maxHeartbeats 1000000 in
theorem rof_ok (A : Option Addr) (l : List Dd) (n c : Nat) (t : Int) (w : World) (hr : Rd (fun b => b < w.heap.size) w A (dds l)) (hl : l.length = n) (hn : n ≤ 1000000) :
    Calls Try.prog 29 #[.slice A n c, .int .i64 t] w fun e w' => Below w.heap.size w w' ∧ ∃ v, e = .returned v ∧ w'.ownsRow w.heap.size 47 7 v (l.filter (keepB t)).length (dds (l.filter (keepB t))) := by
  subst hl
  obtain ⟨i0, hi0, hz0, hz1, hz2⟩ := info_parts ddInfo
  go_enter Try.func29, Try.ntmps29
  go_wp2_with fail
  go_loopw [5, 6] (fun v5 v6 wr => ∃ k : Nat, k ≤ l.length ∧ v6 = .int .i64 k ∧ wr.ownsRow w.heap.size 47 7 v5 ((l.take k).filter (keepB t)).length (dds ((l.take k).filter (keepB t))) ∧ Below w.heap.size w wr) (fun _ v _ => l.length - (intOf v).toNat)
  case atStart => exact ⟨0, Nat.zero_le _, rfl, own_none _ _ _ _, Below.refl _ _⟩
  case round =>
    obtain ⟨k, hk, rfl, hown, hb⟩ := hrel
    by_cases hlt : k < l.length
    · obtain ⟨dd, hd⟩ : ∃ d, l[k]? = some d := ⟨_, List.getElem?_eq_getElem hlt⟩
      obtain ⟨b0, o, rfl, _, _, hcell⟩ := rd_dd (hr.keep (Ch.of_below hb (fun _ => False)) (fun _ _ _ e => e)) hd
      have hle : ((l.take k).filter (keepB t)).length ≤ k := Nat.le_trans (List.length_filter_le _ _) (by rw [List.length_take]; omega)
      have HS := Lib.hid (show (l.take (k + 1)).filter (keepB t) = (l.take k).filter (keepB t) ++ [dd].filter (keepB t) by rw [take_snoc l k dd hd, List.filter_append])
      generalize (l.take k).filter (keepB t) = FL at *
      obtain ⟨t', kd, y, bb, aa, wt, en⟩ := dd
      have c0 := hcell 0 _ rfl
      have c1 := hcell 1 _ rfl
      have c2 := hcell 2 _ rfl
      have c3 := hcell 3 _ rfl
      have c4 := hcell 4 _ rfl
      have c5 := hcell 5 _ rfl
      have c6 := hcell 6 _ rfl
      simp only [Nat.add_zero] at c0
      have i1 : (0 : Int) ≤ k := Int.natCast_nonneg _
      have i2 : (k : Int) < l.length := by omega
      have HR := Lib.hid hr
      clear hcell hd hr
      by_cases hq : t' = t
      · have e1 : (t' == t) = true := by rw [beq_iff_eq]; exact hq
        have HN := Lib.hid (show [(⟨t', kd, y, bb, aa, wt, en⟩ : Dd)].filter (keepB t) = [⟨t', kd, y, bb, aa, wt, en⟩] by
          simp [keepB, hq])
        have hbs := hb.size
        have hbr := Below.refl wr.heap.size wr
        clear hq
        go_wp2_with ((at_builtin; refine wpList_append_rd _ rfl _ _ _ rfl w.heap.size 47 i0 _ 7 48 Try.underlying42 hi0 hz0 hz1 hz2 rfl (by omega) _ _ _ rfl (own_keep (own_keep hown (Ch.of_below hbr (fun _ => False)) (fun _ _ _ e => e)) ((Ch.refl (fun _ => False) _).alloc _) (fun _ _ _ e => e)) (some ⟨_, 0, none⟩) 1 1 [.int .i64 t', .int .i64 kd, .int .i64 y, .int .u64 bb, .int .u64 aa, .bool wt, .bool en] rfl (Rd.of_blk (G := fun _ => True) (Blk.new _ _ [.int .i64 t', .int .i64 kd, .int .i64 y, .int .u64 bb, .int .u64 aa, .bool wt, .bool en]) (List.prefix_refl _) trivial) (fun h => by cases h) rfl (by simp [Value.oneCell']) (by unfold maxLen; omega) (by omega) (by have := Below.size hbr; simp; omega) ?_))
        intro v3 w3 hown3 hch3 hat3
        have hb3 : Below w.heap.size w w3 := (hb.alloc hb.size _).trans (hch3.below (fun j hj e => ownBlock_ge hown e) (by have := hb.size; simp; omega))
        have hown4 : w3.ownsRow w.heap.size 47 7 v3 (FL ++ [(⟨t', kd, y, bb, aa, wt, en⟩ : Dd)]).length (dds (FL ++ [(⟨t', kd, y, bb, aa, wt, en⟩ : Dd)])) := by
          rw [dds_append, dds_one]
          simpa [Dd.cells] using hown3
        clear hown3 hch3 hat3 hown
        go_wp2_with fail
        go_roundw
        case rel => exact ⟨k + 1, by omega, by go_num, by rw [HS.out, HN.out]; exact hown4, hb3⟩
        case measure => simp [intOf]; omega
      · have e1 : (t' == t) = false := by rw [beq_eq_false_iff_ne]; exact hq
        have HN := Lib.hid (show [(⟨t', kd, y, bb, aa, wt, en⟩ : Dd)].filter (keepB t) = [] by
          simp [keepB, hq])
        clear hq
        go_wp2_with fail
        go_roundw
        case rel => exact ⟨k + 1, by omega, by go_num, by rw [HS.out, HN.out, List.append_nil]; exact hown, hb⟩
        case measure => simp [intOf]; omega
    · obtain rfl : k = l.length := by omega
      rw [List.take_length] at hown
      go_wp2_with fail
      go_ret
      exact ⟨hb, _, rfl, hown⟩
theorem enB_mono {l : List Dd} {i j : Nat} {t : Int} (h : i ≤ j) (he : enB (l.take i) t = true) : enB (l.take j) t = true := by
  unfold enB at *
  rw [List.any_eq_true] at *
  obtain ⟨d, hd, hq⟩ := he
  refine ⟨d, ?_, hq⟩
  obtain ⟨k, hk⟩ := List.mem_iff_getElem?.1 hd
  rw [List.getElem?_take] at hk
  split at hk
  · exact List.mem_iff_getElem?.2 ⟨k, by rw [List.getElem?_take, if_pos (by omega)]; exact hk⟩
  · cases hk
set_option maxHeartbeats 1000000 in
theorem rvalid_ok (A : Option Addr) (l : List Dd) (n c : Nat) (w : World) (hr : Rd (fun b => b < w.heap.size) w A (dds l)) (hl : l.length = n) (hn : n ≤ 9223372036854775806) :
    Calls Try.prog 24 #[.slice A n c] w fun e w' => e = .returned (.bool (validB l)) ∧ Below w.heap.size w w' := by
  subst hl
  have HV := Lib.hid (show validB l = (goodB l l.length && decide (l.length ≤ 100000)) from rfl)
  generalize validB l = V at *
  by_cases hlong : 100000 < l.length
  · have d1 : decide (100000 < (l.length : Int)) = true := decide_eq_true (by omega)
    obtain rfl : V = false := by rw [HV.out, decide_eq_false (by omega), Bool.and_false]
    clear hlong
    go_enter Try.func24, Try.ntmps24
    go_wp2_with fail
    go_ret
    exact ⟨rfl, Below.refl _ _⟩
  · have d1 : decide (100000 < (l.length : Int)) = false := decide_eq_false (by omega)
    have hV : V = goodB l l.length := by rw [HV.out, decide_eq_true (by omega), Bool.and_true]
    have HV2 := Lib.hid hV
    clear HV hV hlong
    go_enter Try.func24, Try.ntmps24
    go_wp2_with fail
    go_loopw [3] (fun v wr => ∃ k : Nat, k ≤ l.length ∧ v = .int .i64 k ∧ goodB l k = true ∧ Below w.heap.size w wr) (fun v _ => l.length - (intOf v).toNat)
    case atStart => exact ⟨0, Nat.zero_le _, rfl, rfl, Below.refl _ _⟩
    case round =>
      obtain ⟨i, hk, rfl, hg, hb⟩ := hrel
      have HG := Lib.hid hg
      clear hg
      by_cases hlt : i < l.length
      · obtain ⟨d, hd⟩ : ∃ d, l[i]? = some d := ⟨_, List.getElem?_eq_getElem hlt⟩
        obtain ⟨b, o, rfl, _, hbl, hcell⟩ := rd_dd (hr.keep (Ch.of_below hb (fun _ => False)) (fun _ _ _ e => e)) hd
        have hgs := goodB_succ l i hd
        rw [HG.out, Bool.true_and] at hgs
        have hright := rright_ok d wr
        have HMONO := Lib.hid (goodB_mono l (i + 1) l.length (by omega))
        have HD := Lib.hid hd
        obtain ⟨t, kd, x, bb, aa, wt, en⟩ := d
        have c0 := hcell 0 _ rfl
        have c1 := hcell 1 _ rfl
        have c2 := hcell 2 _ rfl
        have c3 := hcell 3 _ rfl
        have c4 := hcell 4 _ rfl
        have c5 := hcell 5 _ rfl
        have c6 := hcell 6 _ rfl
        simp only [Dd.val, Dd.cells] at hright
        simp only [Nat.add_zero] at c0
        simp only at hgs
        have HGS := Lib.hid hgs
        have i1 : (0 : Int) ≤ i := Int.natCast_nonneg _
        have i2 : (i : Int) < l.length := by omega
        clear hcell hd hgs
        cases hR : rightB ⟨t, kd, x, bb, aa, wt, en⟩
        · rw [hR] at hright
          obtain rfl : V = false := by
            rw [HV2.out, ← Bool.not_eq_true]
            intro h
            have h2 := HMONO.out h
            rw [HGS.out, hR] at h2
            cases h2
          clear hR
          go_wp2_with (go_at_call 54; refine hright.mono ?_; rintro e w5 ⟨rfl, hb5⟩)
          go_ret
          exact ⟨rfl, hb.trans (hb5.mono hb.size)⟩
        · rw [hR] at hright
          have HRT := Lib.hid hR
          clear hR
          go_wp2_with (go_at_call 54; refine hright.mono ?_; rintro e w5 ⟨rfl, hb5⟩)
          have hbb := hb.trans (hb5.mono hb.size)
          have HR0 := Lib.hid hr
          clear hright hb hb5 c0 c1 c2 c3 c4 c5 c6 hr
          go_loopw [4] (fun v wr => ∃ k : Nat, k ≤ i ∧ v = .int .i64 k ∧ enB (l.take k) t = false ∧ Below w.heap.size w wr) (fun v _ => i - (intOf v).toNat)
          case atStart => exact ⟨0, Nat.zero_le _, rfl, rfl, hbb⟩
          case round =>
            clear hbb
            obtain ⟨k, hk, rfl, hen, hb⟩ := hrel
            have HEN := Lib.hid hen
            clear hen
            by_cases hlt2 : k < i
            · obtain ⟨d2, hd2⟩ : ∃ d, l[k]? = some d := ⟨_, List.getElem?_eq_getElem (by omega)⟩
              have hr2 := HR0.out.keep (Ch.of_below hb (fun _ => False)) (fun _ _ _ e => e)
              obtain ⟨b1, o1, hA1, _, _, hc1⟩ := rd_dd hr2 hd2
              obtain ⟨b2, o2, hA2, _, _, hc2⟩ := rd_dd hr2 HD.out
              injection hA1 with hA1
              injection hA1 with e1 e2
              subst e1 e2
              injection hA2 with hA2
              injection hA2 with e1 e2
              subst e1 e2
              have HTK := Lib.hid (show enB (l.take (k + 1)) t = (enB (l.take k) t || (decide (d2.t = t) && d2.en)) by rw [take_snoc l k d2 hd2, enB_snoc])
              obtain ⟨t2, kd2, x2, bb2, aa2, wt2, en2⟩ := d2
              have f0 := hc1 0 _ rfl
              have f6 := hc1 6 _ rfl
              have g0 := hc2 0 _ rfl
              simp only [Nat.add_zero] at f0 g0
              simp only at HTK
              have j1 : (0 : Int) ≤ k := Int.natCast_nonneg _
              have j2 : (k : Int) < l.length := by omega
              have j3 : (k : Int) < i := by omega
              clear hc1 hc2 hr2 hd2
              cases en2
              · have HN := Lib.hid (show enB (l.take (k + 1)) t = false by rw [HTK.out, HEN.out]; simp)
                go_upto_region 11 with fail
                go_quiet (fail)
                go_wp2_with fail
                go_roundw
                case rel => exact ⟨k + 1, by omega, by go_num, HN.out, by (repeat' (first | (with_reducible exact Below.refl _ _) | (with_reducible assumption) | (with_reducible refine Below.alloc ?_ ?_ _) | (with_reducible refine Below.drew ?_) | (with_reducible refine below_drewN ?_ _) | (with_reducible refine Below.setCell ?_ ?_ _) | (with_reducible refine Below.trans ?_ (Below.mono (by assumption) ?_)) | (first | go_size | (with_reducible exact Below.size (by assumption)) | (with_reducible exact Nat.le_trans (Below.size (by assumption)) (Below.size (by assumption))) | (refine Nat.le_trans (Below.size (by assumption)) ?_; go_size))))⟩
                case measure => simp [intOf]; omega
              · by_cases hq : t2 = t
                · have e1 : (t2 == t) = true := by rw [beq_iff_eq]; exact hq
                  obtain rfl : V = false := by
                    rw [HV2.out, ← Bool.not_eq_true]
                    intro h
                    have h2 := HMONO.out h
                    have h3 : enB (l.take (k + 1)) t = true := by rw [HTK.out, decide_eq_true hq]; simp
                    rw [HGS.out, enB_mono (by omega : k + 1 ≤ i) h3] at h2
                    simp at h2
                  clear hq
                  go_upto_region 11 with fail
                  go_quiet (fail)
                  go_wp2_with fail
                  go_ret
                  exact ⟨rfl, by (repeat' (first | (with_reducible exact Below.refl _ _) | (with_reducible assumption) | (with_reducible refine Below.alloc ?_ ?_ _) | (with_reducible refine Below.drew ?_) | (with_reducible refine below_drewN ?_ _) | (with_reducible refine Below.setCell ?_ ?_ _) | (with_reducible refine Below.trans ?_ (Below.mono (by assumption) ?_)) | (first | go_size | (with_reducible exact Below.size (by assumption)) | (with_reducible exact Nat.le_trans (Below.size (by assumption)) (Below.size (by assumption))) | (refine Nat.le_trans (Below.size (by assumption)) ?_; go_size))))⟩
                · have e1 : (t2 == t) = false := by rw [beq_eq_false_iff_ne]; exact hq
                  have HN := Lib.hid (show enB (l.take (k + 1)) t = false by rw [HTK.out, HEN.out, decide_eq_false hq]; rfl)
                  clear hq
                  go_upto_region 11 with fail
                  go_quiet (fail)
                  go_wp2_with fail
                  go_roundw
                  case rel => exact ⟨k + 1, by omega, by go_num, HN.out, by (repeat' (first | (with_reducible exact Below.refl _ _) | (with_reducible assumption) | (with_reducible refine Below.alloc ?_ ?_ _) | (with_reducible refine Below.drew ?_) | (with_reducible refine below_drewN ?_ _) | (with_reducible refine Below.setCell ?_ ?_ _) | (with_reducible refine Below.trans ?_ (Below.mono (by assumption) ?_)) | (first | go_size | (with_reducible exact Below.size (by assumption)) | (with_reducible exact Nat.le_trans (Below.size (by assumption)) (Below.size (by assumption))) | (refine Nat.le_trans (Below.size (by assumption)) ?_; go_size))))⟩
                  case measure => simp [intOf]; omega
            · obtain rfl : k = i := by omega
              have HN := Lib.hid (show goodB l (k + 1) = true by rw [HGS.out, HRT.out, HEN.out]; rfl)
              have j3 : ¬ (k : Int) < k := by omega
              go_wp2_with fail
              go_roundw
              case rel => exact ⟨k + 1, by omega, by go_num, HN.out, hb⟩
              case measure => simp [intOf]; omega
      · obtain rfl : i = l.length := by omega
        obtain rfl : V = true := by rw [HV2.out, HG.out]
        go_wp2_with fail
        go_ret
        exact ⟨rfl, hb⟩
end Go.Proofs.Ytpndlggahdefcaa
