/-
  Contracts of package trace, sixth part: Waits.
-/
import Derived.Test.YtpndlggahdefcaaWtSt
import Derived.Deep.CutRange
namespace Go.Proofs.Ytpndlggahdefcaa
open Go.RowKit Go.Maps
set_option linter.unusedSimpArgs false
set_option linter.unusedVariables false

def WtPost (w : World) (l : List Dd) (e : Ending) (w' : World) : Prop :=
  Below w.heap.size w w' ∧
  ((wrongF l ≠ 0 ∧ e = .returned (.tuple #[.slice none 0 0, .int .i64 (wrongF l)])) ∨
   (wrongF l = 0 ∧ ∃ A c, (refW l l.length).length ≤ c ∧ c ≤ 9223372036854775807 ∧ Rd (fun b => w.heap.size ≤ b) w' A (wts (refW l l.length)) ∧ e = .returned (.tuple #[.slice A (refW l l.length).length c, .int .i64 0])))
set_option maxHeartbeats 2000000 in
set_option maxRecDepth 100000 in
theorem waits_ok (B : Option Addr) (l : List Dd) (m d : Nat) (w : World)
    (hr : Rd (fun b => b < w.heap.size) w B (dds l)) (hl : l.length = m) (hm : m ≤ 9223372036854775806) :
    Calls Try.prog 21 #[.slice B m d] w (WtPost w l) := by
  have hwr := wrong_ok B l m d w hr hl hm
  subst hl
  by_cases hE : wrongF l = 0
  · have H0 := Lib.hid hE
    rw [hE] at hwr
    have hlong := wrong_len hE
    have HRT := Lib.hid (wf_right hE)
    clear hE
    have hmm := @run_makeMap Try.prog
    obtain ⟨i0, hi0, hz0, hz1, hz2⟩ := info_parts wtInfo
    go_enter Try.func21, Try.ntmps21
    go_wp2_with (go_at_call 50; refine hwr.mono ?_; rintro e w1 ⟨rfl, hb1⟩)
    have hS0 : WSt w w1.heap.size 0 (.slice none 0 0) [] (fun _ => none) (w1.alloc (.map #[] 0)) :=
      ⟨⟨_, World.ownsMap_made w1 _ _ _, opat_none⟩, own_none _ _ _ _, hb1.alloc hb1.size _, hb1.size⟩
    go_loopw [5, 24] (fun v5 v24 wr => ∃ k : Nat, k ≤ l.length ∧ v24 = .int .i64 k ∧ WSt w w1.heap.size k v5 (wsRun l k).1 (wsRun l k).2 wr) (fun _ v _ => l.length - (intOf v).toNat)
    case atStart => exact ⟨0, Nat.zero_le _, rfl, hS0⟩
    case round =>
      clear hS0 hmm
      obtain ⟨k, hk, rfl, hS⟩ := hrel
      by_cases hlt : k < l.length
      · obtain ⟨dd, hd⟩ : ∃ d, l[k]? = some d := ⟨_, List.getElem?_eq_getElem hlt⟩
        obtain ⟨b0, o, rfl, _, hbl, hcell⟩ := rd_dd (hr.keep (Ch.of_below hS.below (fun _ => False)) (fun _ _ _ e => e)) hd
        have HRUN := Lib.hid (wsRun_succ l k hd)
        have hrt := HRT.out dd (List.mem_iff_getElem?.2 ⟨k, hd⟩)
        have hrt2 := rightB_iff.1 hrt
        have HRT2 := Lib.hid hrt
        have HLN := wsRun_len l k
        have HWI := Lib.hid (wi_all l HRT.out k hk)
        generalize wsRun l k = S at *
        obtain ⟨out, f⟩ := S
        simp only at HLN hS
        obtain ⟨t, kd, y, bb, aa, wt, en⟩ := dd
        have c0 := hcell 0 _ rfl
        have c1 := hcell 1 _ rfl
        have c2 := hcell 2 _ rfl
        have c3 := hcell 3 _ rfl
        have c4 := hcell 4 _ rfl
        have c5 := hcell 5 _ rfl
        have c6 := hcell 6 _ rfl
        simp only [Nat.add_zero] at c0
        simp only at hrt2
        obtain ⟨ht0, ht1, _⟩ := hrt2
        have i1 : (0 : Int) ≤ k := Int.natCast_nonneg _
        have i2 : (k : Int) < l.length := by omega
        have HR0 := Lib.hid hr
        clear hcell hd hr hb1 hwr hrt
        go_upto_region 9 with fail
        have hSA := hS.next ((Below.refl _ _).alloc (Nat.le_refl _) (.cells [.int .i64 t, .int .i64 kd, .int .i64 y, .int .u64 bb, .int .u64 aa, .bool wt, .bool en].toArray 47))
        have hDA := Blk.new wr 47 [.int .i64 t, .int .i64 kd, .int .i64 y, .int .u64 bb, .int .u64 aa, .bool wt, .bool en]
        have hbl2 := hbl
        generalize wr.alloc (.cells [.int .i64 t, .int .i64 kd, .int .i64 y, .int .u64 bb, .int .u64 aa, .bool wt, .bool en].toArray 47) = wa at *
        generalize hDB : wr.heap.size = DB at *
        have d0 := hDA.cell 0
        have d1 := hDA.cell 1
        have d2 := hDA.cell 2
        have d3 := hDA.cell 3
        have d4 := hDA.cell 4
        have d5 := hDA.cell 5
        have d6 := hDA.cell 6
        simp only [List.getElem?_cons_succ, List.getElem?_cons_zero] at d0 d1 d2 d3 d4 d5 d6
        clear hS hbl hbl2 c0 c1 c2 c3 c4 c5 c6 hDB
        obtain ⟨D, hown, hop⟩ := hSA.map
        obtain ⟨⟨y1, y2, y3, y4, y5⟩, hY⟩ : ∃ Y, (f t).getD ⟨0, 0, 0, 0, 0⟩ = Y := ⟨_, rfl⟩
        obtain ⟨is, his⟩ : ∃ is, (f t).isSome = is := ⟨_, rfl⟩
        have hkt : keyOf Try.prog 3 (.int .i64 t) = some (.int .i64 t) := keyOf_int_mk Try.underlying3 (wf_small ht0 ht1)
        have HY := Lib.hid hY
        have HIS := Lib.hid his
        clear hY his
        go_upto_region 10 with (at_lookup; refine wl_look _ rfl _ _ 115 rfl 3 60 lawI Try.underlying115 (zeroWt _) w1.heap.size k D f rfl hown hop t rfl hkt y1 y2 y3 y4 y5 is HY.out HIS.out ?_)
        have hSB := hSA.next ((Below.refl _ _).alloc (Nat.le_refl _) (.cells [.int .i64 y1, .int .i64 y2, .int .i64 y3, .int .i64 y4, .int .i64 y5].toArray 60))
        have hCB := (Ch.refl (fun _ => False) wa).alloc (.cells [.int .i64 y1, .int .i64 y2, .int .i64 y3, .int .i64 y4, .int .i64 y5].toArray 60)
        have hDB := hDA.keep hCB (fun e => e)
        have hWB := Blk.new wa 60 [.int .i64 y1, .int .i64 y2, .int .i64 y3, .int .i64 y4, .int .i64 y5]
        generalize wa.alloc (.cells [.int .i64 y1, .int .i64 y2, .int .i64 y3, .int .i64 y4, .int .i64 y5].toArray 60) = wb at *
        have d0 := hDB.cell 0
        have d1 := hDB.cell 1
        have d2 := hDB.cell 2
        have d5 := hDB.cell 5
        have e0 := hWB.cell 0
        have e1 := hWB.cell 1
        have e2 := hWB.cell 2
        have e3 := hWB.cell 3
        have e4 := hWB.cell 4
        simp only [List.getElem?_cons_succ, List.getElem?_cons_zero] at d0 d1 d2 d5 e0 e1 e2 e3 e4
        clear hSA hDA d3 d4 d6 hown hop hCB D
        obtain ⟨WT, hWT⟩ : ∃ WT : Bool, WT = (wt && (kd == 1)) := ⟨_, rfl⟩
        obtain ⟨CL, hCL⟩ : ∃ CL : Bool, CL = (is && !(WT && (y2 == y))) := ⟨_, rfl⟩
        have HCASES := Lib.hid (ws_cases k ⟨t, kd, y, bb, aa, wt, en⟩ f HRT2.out (fun x hx => (HWI.out.a t x hx).2.2) WT is CL ⟨y1, y2, y3, y4, y5⟩ hWT HY.out HIS.out hCL)
        have hBB := Below.refl wb.heap.size wb
        go_cut [11] (fun s11 wx => s11 = .bool WT ∧ wb = wx)
        case first =>
          subst hWT
          clear hCL HCASES
          cases wt
          · go_wp2_with fail
            go_meet
            exact ⟨rfl, rfl⟩
          · cases hk1 : (kd == 1)
            all_goals
              go_wp2_with fail
              go_meet
              exact ⟨by rw [hk1]; rfl, rfl⟩
        case rest =>
          obtain ⟨rfl, rfl⟩ := hcut
          clear hWT
          go_upto_region 11 with fail
          go_cut [56] (fun s56 wx => s56 = .bool CL ∧ wb = wx)
          case first =>
            subst hCL
            clear HCASES
            cases is
            · go_wp2_with fail
              go_meet
              exact ⟨rfl, rfl⟩
            · cases WT
              · go_wp2_with fail
                go_meet
                exact ⟨rfl, rfl⟩
              · cases hk1 : (y2 == y)
                all_goals
                  go_wp2_with fail
                  go_meet
                  exact ⟨by rw [hk1]; rfl, rfl⟩
          case rest =>
            obtain ⟨rfl, rfl⟩ := hcut
            clear hCL
            obtain ⟨F1, hF1⟩ : ∃ F1, F1 = wsCl ⟨t, kd, y, bb, aa, wt, en⟩ f := ⟨_, rfl⟩
            obtain ⟨O1, hO1⟩ : ∃ O1, O1 = out ++ wsOut ⟨t, kd, y, bb, aa, wt, en⟩ f := ⟨_, rfl⟩
            have HF1 := Lib.hid hF1
            have HO1 := Lib.hid hO1
            clear hF1 hO1
            obtain ⟨IS, hIS⟩ : ∃ IS : Bool, IS = (is && !CL) := ⟨_, rfl⟩
            have HIS2 := Lib.hid hIS
            have hltM := hSB.lt
            go_upto_if 56 with fail
            go_cut [5, 10] (fun s5 s10 wx => s10 = .bool IS ∧ WSt w w1.heap.size k s5 O1 F1 wx ∧ Blk wx DB 47 [.int .i64 t, .int .i64 kd, .int .i64 y, .int .u64 bb, .int .u64 aa, .bool wt, .bool en])
            case first =>
              cases CL
              · have hfin : WSt w w1.heap.size k u5 O1 F1 wb := by
                  have h1 := HCASES.out.1
                  have h2 := HCASES.out.2.1
                  rw [HO1.out, h1]
                  obtain ⟨D, q1, q2⟩ := hSB.map
                  exact ⟨⟨D, q1, q2.congr (fun u => by rw [HF1.out, h2 u]; rfl)⟩, by simpa using hSB.row, hSB.below, hSB.lo⟩
                have HFIN := Lib.hid hfin
                subst hIS
                clear hfin hSB
                go_wp2_with fail
                go_meet
                exact ⟨by cases is <;> rfl, HFIN.out, hDB⟩
              · have hrow := hSB.row
                obtain ⟨D, hown, hop⟩ := hSB.map
                go_upto_region 13 with ((at_builtin; refine wpList_append_rd _ rfl _ _ _ rfl (w1.heap.size + 1) 60 i0 _ 5 40 Try.underlying56 hi0 hz0 hz1 hz2 rfl (by omega) _ _ _ rfl (own_keep (own_keep hrow (Ch.of_below hBB (fun _ => False)) (fun _ _ _ e => e)) ((Ch.refl (fun _ => False) _).alloc _) (fun _ _ _ e => e)) (some ⟨_, 0, none⟩) 1 1 [.int .i64 y1, .int .i64 y2, .int .i64 y3, .int .i64 y4, .int .i64 y5] rfl (Rd.of_blk (G := fun _ => True) (Blk.new _ _ [.int .i64 y1, .int .i64 y2, .int .i64 y3, .int .i64 y4, .int .i64 y5]) (List.prefix_refl _) trivial) (fun h => by cases h) rfl (by simp [Value.oneCell']) (by unfold maxLen; omega) (by omega) (by have := Below.size hBB; simp; omega) ?_))
                intro v3 w3 hown3 hch3 hat3
                have hbx : Below wb.heap.size wb (wb.alloc (.cells #[.int .i64 y1, .int .i64 y2, .int .i64 y3, .int .i64 y4, .int .i64 y5] 60)) := (Below.refl _ _).alloc (Nat.le_refl _) _
                have hD3 := (hDB.keep (Ch.of_below hbx (fun _ => False)) (fun e => e)).keep hch3 (own_blk_ne (hSB.next hbx).row (hDB.keep (Ch.of_below hbx (fun _ => False)) (fun e => e)) (by decide))
                have hS3 : WSt w w1.heap.size k v3 O1 f w3 := by
                  rw [HO1.out, HCASES.out.1]
                  exact (hSB.next hbx).app hch3 (by simpa [wts_append, wts_one, Wt.cells] using hown3)
                obtain ⟨D3, hown4, hop4⟩ := hS3.map
                have d0 := hD3.cell 0
                simp only [List.getElem?_cons_succ, List.getElem?_cons_zero] at d0
                clear hown3 hch3 hat3 hown hop hrow hbx hDB hSB hWB hBB d1 d2 d5 e0 e1 e2 e3 e4 D
                go_wp2_with (at_delete; refine wpList_delete_own _ rfl _ _ 115 3 rfl 60 lawI Try.underlying115 _ w1.heap.size k D3 rfl hown4 _ _ rfl hkt ?_; intro w4 hown5 hturn5)
                go_meet
                have hfin : WSt w w1.heap.size k v3 O1 F1 w4 :=
                  hS3.turn (ch_of_turned hturn5) ⟨_, hown5, hop4.del t (funext fun u => by rw [HF1.out, HCASES.out.2.1 u]; rfl)⟩
                exact ⟨by rw [hIS]; cases is <;> rfl, hfin, hD3.keep (ch_of_turned hturn5) (fun e => by have := hS3.map; obtain ⟨D9, q9, _⟩ := this; subst e; obtain ⟨es, cl, q, _⟩ := q9; unfold Blk at hD3; rw [q] at hD3; cases hD3)⟩
            case rest =>
              obtain ⟨rfl, hS1, hD1⟩ := hcut
              obtain ⟨NW, hNW⟩ : ∃ NW : Bool, NW = (WT && !IS) := ⟨_, rfl⟩
              have HNW := Lib.hid hNW
              obtain ⟨F2, hF2⟩ : ∃ F2, F2 = wsMid k ⟨t, kd, y, bb, aa, wt, en⟩ f := ⟨_, rfl⟩
              have HF2 := Lib.hid hF2
              have hMID := HCASES.out.2.2
              rw [← hIS, ← hNW] at hMID
              have HMID := Lib.hid hMID
              clear hF2 hMID hIS hDB hSB hWB hBB d1 d2 d5 e0 e1 e2 e3 e4 hltM d0
              go_upto_region 15 with fail
              go_cut [68] (fun s68 wx => s68 = .bool NW ∧ wc = wx)
              case first =>
                subst hNW
                clear HMID HNW
                cases WT
                · go_wp2_with fail
                  go_meet
                  exact ⟨rfl, rfl⟩
                · cases IS
                  all_goals
                    go_wp2_with fail
                    go_meet
                    exact ⟨rfl, rfl⟩
              case rest =>
                obtain ⟨rfl, rfl⟩ := hcut
                clear hNW
                have d0 := hD1.cell 0
                have d1 := hD1.cell 1
                have d2 := hD1.cell 2
                simp only [List.getElem?_cons_succ, List.getElem?_cons_zero] at d0 d1 d2
                go_upto_if 68 with fail
                go_cut [] (fun wx => WSt w w1.heap.size (k + 1) u5 O1 F2 wx ∧ Blk wx DB 47 [.int .i64 t, .int .i64 kd, .int .i64 y, .int .u64 bb, .int .u64 aa, .bool wt, .bool en])
                case first =>
                  cases NW
                  · have hfin : WSt w w1.heap.size (k + 1) u5 O1 F2 wc := by
                      obtain ⟨D, q1, q2⟩ := hS1.map
                      exact ⟨⟨D, q1.mono (Nat.le_succ k), q2.congr (fun u => by rw [HF2.out, HMID.out u, HF1.out]; rfl)⟩, hS1.row, hS1.below, hS1.lo⟩
                    have HFIN := Lib.hid hfin
                    clear hfin hS1
                    go_wp2_with fail
                    go_meet
                    exact ⟨HFIN.out, hD1⟩
                  · obtain ⟨D, hown, hop⟩ := hS1.map
                    go_wp2_with (at_mapUpdate; refine wpList_mapUpdate_own _ rfl _ _ _ 115 rfl 3 60 lawI Try.underlying115 _ w1.heap.size k D rfl hown (by unfold maxLen; omega) _ _ (.int .i64 t) rfl rfl hkt _ [] (wtElem_mk ⟨t, y, k, -1, -1⟩) ?_; intro w4 hown4 hgrow4)
                    go_meet
                    have hc4 := ch_of_grown hgrow4
                    have hfin : WSt w w1.heap.size (k + 1) u5 O1 F2 w4 :=
                      hS1.turn hc4 ⟨_, hown4, hop.put (hown.isMap) t ⟨t, y, k, -1, -1⟩ (funext fun u => by rw [HF2.out, HMID.out u, HF1.out]; rfl)⟩
                    exact ⟨hfin, hD1.keep hc4 (fun e => by subst e; obtain ⟨es, cl, q, _⟩ := hown; unfold Blk at hD1; rw [q] at hD1; cases hD1)⟩
                case rest =>
                  obtain ⟨hS2, hD2⟩ := hcut
                  clear hS1 hD1 d0 d1 d2
                  obtain ⟨D0, hown0, hop0⟩ := hS2.map
                  obtain ⟨wx, rfl⟩ : ∃ wx : World, wx = wc := ⟨_, rfl⟩
                  go_wp2_with (at_range; refine wpList_range_own _ rfl _ 115 rfl 3 60 lawI Try.underlying115 _ w1.heap.size (k + 1) D0 rfl hown0 ?_; intro w0 hrg0 hg0 hs0)
                  have hch0 : Below wx.heap.size wx w0 := ⟨hg0.os, hg0.tape, hg0.output, hg0.size, fun j hj => hg0.block j hj (by simp)⟩
                  have hS20 := hS2.next hch0
                  have hW0 : W2 w w1.heap.size (k + 1) wx.heap.size u5 O1 DB [.int .i64 t, .int .i64 kd, .int .i64 y, .int .u64 bb, .int .u64 aa, .bool wt, .bool en] D0 (Maps.has D0) (Maps.size D0) w0 :=
                    ⟨hrg0, hS20.row, hS20.below, hS20.lo, hS2.below.size, fun _ => hD2.keep (Ch.of_below hch0 (fun _ => False)) (fun e => e)⟩
                  have hG0 : OpAt D0 (wsG k ⟨t, kd, y, bb, aa, wt, en⟩ F2 (Maps.has D0)) := hop0.congr fun u => by
                    unfold wsG
                    split
                    · rfl
                    · split
                      · rfl
                      · rename_i q
                        rw [hop0.has] at q
                        cases e : F2 u with
                        | none => rfl
                        | some z => rw [e] at q; exact absurd rfl q
                  obtain ⟨R, hR⟩ : ∃ R, R = wx.heap.size := ⟨_, rfl⟩
                  rw [← hR] at hW0 ⊢
                  have HW0 := Lib.hid (And.intro hW0 hG0)
                  clear hown0 hop0 hrg0 hg0 hs0 hch0 hS20 hS2 hD2 hW0 hG0 hR
                  go_loopw [12] (fun _ wr => ∃ D left cnt, W2 w w1.heap.size (k + 1) R u5 O1 DB [.int .i64 t, .int .i64 kd, .int .i64 y, .int .u64 bb, .int .u64 aa, .bool wt, .bool en] D left cnt wr ∧ OpAt D (wsG k ⟨t, kd, y, bb, aa, wt, en⟩ F2 left)) (fun _ wr => wr.rangeLeft w1.heap.size R)
                  case atStart => exact ⟨_, _, _, HW0.out.1, HW0.out.2⟩
                  case round =>
                    clear HW0
                    obtain ⟨D, left, cnt, hW, hG⟩ := hrel
                    have hrg := hW.rg
                    have hcnt := hrg.left_eq
                    have HCNT := Lib.hid hcnt
                    clear hcnt
                    go_wp2_with (at_next; refine wl_next _ rfl _ rfl 3 lawI Try.underlying3 w1.heap.size R (k + 1) D _ left cnt rfl hrg hG ?_ ?_)
                    · intro hl0
                      have hnew : WSt w w1.heap.size (k + 1) u5 (wsRun l (k + 1)).1 (wsRun l (k + 1)).2 wr := by
                        rw [HRUN.out]
                        exact ⟨⟨D, hrg.owns, hG.congr fun u => by rw [HF2.out]; exact wsG_end k _ f left hl0 u⟩, by rw [← HO1.out]; exact hW.row, hW.below, hW.lo⟩
                      have HNEW := Lib.hid hnew
                      clear hnew hW hG hrg
                      go_wp2_with fail
                      go_roundw
                      case rel => exact ⟨k + 1, by omega, by go_num, HNEW.out⟩
                      case measure => simp [intOf]; omega
                    · intro t2 x1 x2 x3 x4 x5 w2 cnt2 hwf2 hl2 hx hrg2 hlt2 hg2 hs2 hen
                      clear hs2
                      have hkt2 : keyOf Try.prog 3 (.int .i64 t2) = some (.int .i64 t2) := keyOf_int_mk Try.underlying3 hwf2
                      have hW2 := hW.turn (w' := w2) ((ch_of_grown hg2).mono (fun _ _ e => .inr e)) hrg2
                      go_upto_region 20 with fail
                      have hW3 := hW2.next ((Below.refl _ _).alloc (Nat.le_refl _) (.cells [.int .i64 x1, .int .i64 x2, .int .i64 x3, .int .i64 x4, .int .i64 x5].toArray 60))
                      have hX3 := Blk.new w2 60 [.int .i64 x1, .int .i64 x2, .int .i64 x3, .int .i64 x4, .int .i64 x5]
                      generalize w2.alloc (.cells [.int .i64 x1, .int .i64 x2, .int .i64 x3, .int .i64 x4, .int .i64 x5].toArray 60) = w3 at *
                      have HLTS := Lib.hid hW2.lts
                      generalize w2.heap.size = XB at *
                      have hD3 := hW3.did (by simp)
                      have d0 := hD3.cell 0
                      have d1 := hD3.cell 1
                      have d2 := hD3.cell 2
                      have d3 := hD3.cell 3
                      have d4 := hD3.cell 4
                      have d5 := hD3.cell 5
                      have d6 := hD3.cell 6
                      have e0 := hX3.cell 0
                      have e1 := hX3.cell 1
                      have e2 := hX3.cell 2
                      simp only [List.getElem?_cons_succ, List.getElem?_cons_zero] at d0 d1 d2 d3 d4 d5 d6 e0 e1 e2
                      have hchg := changes_ok ⟨t, kd, y, bb, aa, wt, en⟩ x2 w3
                      simp only [Dd.val, Dd.cells] at hchg
                      have HMEA := Lib.hid (show ∀ (w' : World) D' l', W2 w w1.heap.size (k + 1) R u5 O1 DB [.int .i64 t, .int .i64 kd, .int .i64 y, .int .u64 bb, .int .u64 aa, .bool wt, .bool en] D' l' cnt2 w' → w'.rangeLeft w1.heap.size R < wr.rangeLeft w1.heap.size R from fun w' D' l' h => by rw [h.rg.left_eq, HCNT.out]; exact hlt2)
                      clear hrg hrg2 hW hW2 hen hg2 hD3
                      by_cases hq : t2 = t
                      · have hn : (t2 != t) = false := by rw [bne_eq_false_iff_eq]; exact hq
                        have HG := Lib.hid (hG.congr (fun u => wsG_same k ⟨t, kd, y, bb, aa, wt, en⟩ F2 left t2 ⟨x1, x2, x3, x4, x5⟩ hl2 hx (.inl hq) u))
                        clear hchg hG hx hl2 hq
                        go_wp2_with fail
                        go_roundw
                        case rel => exact ⟨D, _, _, hW3, HG.out⟩
                        case measure => exact HMEA.out _ _ _ hW3
                      · have hn : (t2 != t) = true := by rw [bne_iff_ne]; exact hq
                        cases hC : chB ⟨t, kd, y, bb, aa, wt, en⟩ x2
                        · rw [hC] at hchg
                          have HG := Lib.hid (hG.congr (fun u => wsG_same k ⟨t, kd, y, bb, aa, wt, en⟩ F2 left t2 ⟨x1, x2, x3, x4, x5⟩ hl2 hx (.inr hC) u))
                          clear hG hx hl2 hq hC
                          go_wp2_with fail
                          refine hchg.mono ?_
                          rintro e w5 ⟨rfl, hb5⟩
                          have hW5 := hW3.next hb5
                          clear hchg hW3
                          go_wp2_with fail
                          go_roundw
                          case rel => exact ⟨D, _, _, hW5, HG.out⟩
                          case measure => exact HMEA.out _ _ _ hW5
                        · rw [hC] at hchg
                          have HTURN := Lib.hid (wsG_turn k ⟨t, kd, y, bb, aa, wt, en⟩ F2 left t2 ⟨x1, x2, x3, x4, x5⟩ hl2 hx hq hC)
                          have HHAS := Lib.hid (show Maps.has D (.int .i64 t2) = true by rw [hG.has, hx]; rfl)
                          have HGG := Lib.hid hG
                          clear hx hl2 hq hC hG
                          go_wp2_with fail
                          refine hchg.mono ?_
                          rintro e w5 ⟨rfl, hb5⟩
                          have hW5 := hW3.next hb5
                          have hX5 := hX3.keep (Ch.of_below hb5 (fun _ => False)) (fun e => e)
                          have hD5 := hW5.did (by simp)
                          have d0 := hD5.cell 0
                          have e0 := hX5.cell 0
                          have e1 := hX5.cell 1
                          have e2 := hX5.cell 2
                          have e3 := hX5.cell 3
                          have e4 := hX5.cell 4
                          have e5 := hX5.frozen 3
                          have e6 := hX5.frozen 4
                          simp only [List.getElem?_cons_succ, List.getElem?_cons_zero] at d0 e0 e1 e2 e3 e4
                          clear hchg hW3 hX3 d1 d2 d3 d4 d5 d6 hD5
                          go_upto_region 21 with fail
                          go_cut [] (fun wx => W2 w w1.heap.size (k + 1) R u5 O1 DB [.int .i64 t, .int .i64 kd, .int .i64 y, .int .u64 bb, .int .u64 aa, .bool wt, .bool en] D (fun z => left z && !z.sameKey (.int .i64 t2)) cnt2 wx ∧ Blk wx XB 60 [.int .i64 x1, .int .i64 x2, .int .i64 x3, .int .i64 k, .int .i64 t])
                          case first =>
                            have hsc := (((Ch.refl (fun j => j = XB) w5).setCell (p := ⟨XB, 3, none⟩) (.inl rfl) (.int .i64 (k : Int))).setCell (p := ⟨XB, 4, none⟩) (.inl rfl) (.int .i64 t)).drew
                            have hXX : Blk ((w5.setCell ⟨XB, 3, none⟩ (.int .i64 (k : Int))).setCell ⟨XB, 4, none⟩ (.int .i64 t)).drew XB 60 [.int .i64 x1, .int .i64 x2, .int .i64 x3, .int .i64 k, .int .i64 t] := (hX5.set 3 (.int .i64 (k : Int))).set 4 (.int .i64 t)
                            have hfin := W2.fresh hW5 hsc HLTS.out
                            have HFIN := Lib.hid (And.intro hfin hXX)
                            clear hsc hXX hfin
                            go_region
                            go_wp2_with fail
                            go_meet
                            exact HFIN.out
                          case rest =>
                            obtain ⟨hW6, hX6⟩ := hcut
                            have hrg6 := hW6.rg
                            have e0 := hX6.cell 0
                            have e1 := hX6.cell 1
                            have e2 := hX6.cell 2
                            have e3 := hX6.cell 3
                            have e4 := hX6.cell 4
                            simp only [List.getElem?_cons_succ, List.getElem?_cons_zero] at e0 e1 e2 e3 e4
                            clear hW5 hX5 d0 e5 e6 hb5
                            go_wp2_with (at_mapUpdate; refine wpList_mapUpdate_ranges _ rfl _ _ _ 115 rfl 3 60 lawI Try.underlying115 _ w1.heap.size R (k + 1) D _ cnt2 rfl hrg6 (by unfold maxLen; omega) _ _ (.int .i64 t2) rfl rfl hkt2 _ [] (wtElem_mk ⟨x1, x2, x3, k, t⟩) HHAS.out ?_; intro w7 hrg7 hturn7)
                            have hW7 := hW6.turn ((ch_of_turned hturn7).mono (fun _ _ e => .inl e)) hrg7
                            have hop7 : OpAt (D.put (.int .i64 t2) (Wt.mk x1 x2 x3 k t).dat) (wsG k ⟨t, kd, y, bb, aa, wt, en⟩ F2 (fun z => left z && !z.sameKey (.int .i64 t2))) :=
                              HGG.out.put hrg6.owns.isMap t2 ⟨x1, x2, x3, k, t⟩ HTURN.out
                            have HN7 := Lib.hid (And.intro hW7 hop7)
                            clear hW7 hop7 hrg7 hturn7 hrg6 hW6 hX6
                            go_frame
                            go_roundw
                            case rel => exact ⟨_, _, _, HN7.out.1, HN7.out.2⟩
                            case measure => exact HMEA.out _ _ _ HN7.out.1
      · obtain rfl : k = l.length := by omega
        have HWI := Lib.hid (wi_all l HRT.out l.length hk)
        have HLN := wsRun_len l l.length
        have HFIN := Lib.hid (fun left vals => fin_all l HRT.out (left := left) (vals := vals))
        generalize wsRun l l.length = S at *
        generalize hRW : refW l l.length = RW at *
        have HRW := Lib.hid hRW
        clear hRW
        obtain ⟨out, f⟩ := S
        simp only at HLN hS HFIN
        obtain ⟨D0, hown0, hop0⟩ := hS.map
        obtain ⟨wx, rfl⟩ : ∃ wx : World, wx = wr := ⟨_, rfl⟩
        clear hr hwr hb1 hlt hk
        go_wp2_with (at_range; refine wpList_range_own _ rfl _ 115 rfl 3 60 lawI Try.underlying115 _ w1.heap.size l.length D0 rfl hown0 ?_; intro w0 hrg0 hg0 hs0)
        have hch0 : Below wx.heap.size wx w0 := ⟨hg0.os, hg0.tape, hg0.output, hg0.size, fun j hj => hg0.block j hj (by simp)⟩
        have hS20 := hS.next hch0
        have hW0 : W2 w w1.heap.size l.length wx.heap.size u5 (out ++ []) 0 [] D0 (Maps.has D0) (Maps.size D0) w0 :=
          ⟨hrg0, by rw [List.append_nil]; exact hS20.row, hS20.below, hS20.lo, hS.below.size, fun q => absurd rfl q⟩
        obtain ⟨R, hR⟩ : ∃ R, R = wx.heap.size := ⟨_, rfl⟩
        rw [← hR] at hW0 ⊢
        have HW0 := Lib.hid (And.intro hW0 (And.intro (finv_start hop0) (show ([] : List Wt).length + Maps.size D0 ≤ l.length by have := hown0.size_le; simpa using this)))
        have HOP := Lib.hid hop0
        clear hown0 hop0 hrg0 hg0 hs0 hch0 hS20 hS hW0 hR
        go_frame
        go_loopw [5] (fun v5 wr => ∃ left cnt vals, W2 w w1.heap.size l.length R v5 (out ++ vals) 0 [] D0 left cnt wr ∧ FinV f left vals ∧ vals.length + cnt ≤ l.length) (fun _ wr => wr.rangeLeft w1.heap.size R)
        case atStart => exact ⟨_, _, _, HW0.out.1, HW0.out.2.1, HW0.out.2.2⟩
        case round =>
          clear HW0
          obtain ⟨left, cnt, vals, hW, hV, hvl⟩ := hrel
          have hrg := hW.rg
          have HCNT := Lib.hid hrg.left_eq
          have HV := Lib.hid hV
          clear hV
          go_wp2_with (at_next; refine wl_next _ rfl _ rfl 3 lawI Try.underlying3 w1.heap.size R l.length D0 _ left cnt rfl hrg HOP.out ?_ ?_)
          · intro hl0
            have HL0 := Lib.hid hl0
            have hrow := hW.row
            obtain ⟨A, c, rfl, hc, _⟩ := own_slice hrow
            have hcap := own_cap hrow
            have hsort := sort_waits A c _ _ (fun x hx => by have := (HFIN.out left vals HV.out HL0.out).1 x hx; omega) _ (by rw [List.length_append]; omega) hrow
            have hWB := hW.below
            have hlo := hW.lo
            generalize hLN : (out ++ vals).length = LN at *
            have HL := Lib.hid hLN
            clear hl0 hrow hW hrg hLN
            go_wp2_with (go_at_call 52; refine hsort.mono ?_; rintro e w5 ⟨rfl, r, hp, hs, hrd, hch⟩)
            go_ret2
            have he := (HFIN.out left vals HV.out HL0.out).2 r hp hs
            subst he
            have hlen : r.length = LN := by rw [hp.length_eq, HL.out]
            refine ⟨hWB.trans (hch.below (fun j _ e => by omega) hWB.size), .inr ⟨H0.out, A, c, ?_⟩⟩
            rw [HRW.out, hlen]
            exact ⟨hcap.1, hcap.2, hrd.mono (fun b _ e => by omega), rfl⟩
          · intro t2 x1 x2 x3 x4 x5 w2 cnt2 hwf2 hl2 hx hrg2 hlt2 hg2 hs2 hen
            clear hs2
            have hW2 := hW.turn (w' := w2) ((ch_of_grown hg2).mono (fun _ _ e => .inr e)) hrg2
            have hV2 := finv_step HWI.out HV.out hl2 hx
            have HV2 := Lib.hid hV2
            have HMEA := Lib.hid (show ∀ (w' : World) v o' l', W2 w w1.heap.size l.length R v o' 0 [] D0 l' cnt2 w' → w'.rangeLeft w1.heap.size R < wr.rangeLeft w1.heap.size R from fun w' v o' l' h => by rw [h.rg.left_eq, HCNT.out]; exact hlt2)
            have hlts := hW2.lts
            have hMlt := hlts.1
            have hvn : vals.length + 1 + cnt2 ≤ l.length := by omega
            clear hV2 hl2 hx hrg hrg2 hg2 hW hlts
            go_upto_region 27 with fail
            have hb3 : Below w2.heap.size w2 (w2.alloc (.cells [.int .i64 x1, .int .i64 x2, .int .i64 x3, .int .i64 x4, .int .i64 x5].toArray 60)) := (Below.refl _ _).alloc (Nat.le_refl _) _
            have hW3 := hW2.next hb3
            have hX3 := Blk.new w2 60 [.int .i64 x1, .int .i64 x2, .int .i64 x3, .int .i64 x4, .int .i64 x5]
            have hz3 := hb3.size
            generalize w2.alloc (.cells [.int .i64 x1, .int .i64 x2, .int .i64 x3, .int .i64 x4, .int .i64 x5].toArray 60) = w3 at *
            generalize w2.heap.size = XB at *
            have e0 := hX3.cell 0
            have e1 := hX3.cell 1
            have e2 := hX3.cell 2
            have e3 := hX3.cell 3
            have e4 := hX3.cell 4
            simp only [List.getElem?_cons_succ, List.getElem?_cons_zero] at e0 e1 e2 e3 e4
            have hrow := hW3.row
            have hbr := Below.refl w3.heap.size w3
            have hln : (out ++ vals).length = out.length + vals.length := List.length_append
            have hL1 : (out ++ vals).length ≤ 200000 := by omega
            clear hW2 hX3 hen hb3 hln
            go_wp2_with ((at_builtin; refine wpList_append_rd _ rfl _ _ _ rfl (w1.heap.size + 1) 60 i0 _ 5 40 Try.underlying56 hi0 hz0 hz1 hz2 rfl (by omega) _ _ _ rfl (own_keep (own_keep hrow (Ch.of_below hbr (fun _ => False)) (fun _ _ _ e => e)) ((Ch.refl (fun _ => False) _).alloc _) (fun _ _ _ e => e)) (some ⟨_, 0, none⟩) 1 1 [.int .i64 x1, .int .i64 x2, .int .i64 x3, .int .i64 x4, .int .i64 x5] rfl (Rd.of_blk (G := fun _ => True) (Blk.new _ _ [.int .i64 x1, .int .i64 x2, .int .i64 x3, .int .i64 x4, .int .i64 x5]) (List.prefix_refl _) trivial) (fun h => by cases h) rfl (by simp [Value.oneCell']) (by unfold maxLen; omega) (by omega) (by have := Below.size hbr; simp; omega) ?_))
            intro v3 w4 hown4 hch4 hat4
            have hb4 : Below w3.heap.size w3 (w3.alloc (.cells #[.int .i64 x1, .int .i64 x2, .int .i64 x3, .int .i64 x4, .int .i64 x5] 60)) := (Below.refl _ _).alloc (Nat.le_refl _) _
            have hW5 : W2 w w1.heap.size l.length R v3 (out ++ (vals ++ [⟨x1, x2, x3, x4, x5⟩])) 0 [] D0 _ cnt2 w4 :=
              (hW3.next hb4).app hch4 (by rw [← List.append_assoc]; simpa [wts_append, wts_one, Wt.cells, Nat.add_assoc] using hown4)
            have HN5 := Lib.hid hW5
            clear hown4 hch4 hat4 hrow hbr hW3 hb4 hW5
            go_wp2_with fail
            go_roundw
            case rel => exact ⟨_, _, _, HN5.out, HV2.out, by rw [List.length_append]; exact hvn⟩
            case measure => exact HMEA.out _ _ _ _ HN5.out
  · have H0 := Lib.hid hE
    obtain ⟨E, hEE⟩ : ∃ E, wrongF l = E := ⟨_, rfl⟩
    rw [hEE] at hwr hE
    have d1 : (E != 0) = true := by rw [bne_iff_ne]; exact hE
    have HE := Lib.hid hEE
    clear hE hEE
    go_enter Try.func21, Try.ntmps21
    go_wp2_with (go_at_call 50; refine hwr.mono ?_; rintro e w1 ⟨rfl, hb1⟩)
    go_ret2
    exact ⟨hb1, .inl ⟨H0.out, by rw [HE.out]; rfl⟩⟩
end Go.Proofs.Ytpndlggahdefcaa
