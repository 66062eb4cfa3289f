/-
  Contracts of the reference of layer 13, fifth part: Waits.
-/
import Derived.Test.YtpndlggahdefcaaRTr3
import Derived.Test.YtpndlggahdefcaaWtSt
import Derived.Deep.CutBlock
import Derived.Deep.RegionHeld3
import Derived.Deep.CutRange
namespace Go.Proofs.Ytpndlggahdefcaa
open Go.RowKit
set_option linter.unusedSimpArgs false
set_option linter.unusedVariables false

structure WR (w : World) (v : Value) (out : List Wt) (wr : World) : Prop where
  row : wr.ownsRow w.heap.size 60 5 v out.length (wts out)
  below : Below w.heap.size w wr
theorem WR.next {w wr w' : World} {v : Value} {out : List Wt} (h : WR w v out wr) (hb : Below wr.heap.size wr w') : WR w v out w' :=
  ⟨own_keep h.row (Ch.of_below hb (fun _ => False)) (fun _ _ _ e => e), h.below.trans (hb.mono h.below.size)⟩
theorem itR_succ (l : List Dd) (t w : Int) (i n : Nat) {d : Dd} (h : l[i + 1 + n]? = some d) : itR l t w i (n + 1) = itS t w (i + 1 + n) d (itR l t w i n) := by
  show (match l[i + 1 + n]? with | some d => itS t w (i + 1 + n) d (itR l t w i n) | none => itR l t w i n) = _
  rw [h]
theorem itR_over (l : List Dd) (t w : Int) (i n : Nat) (h : (itR l t w i n).2 = false) : ∀ m, (itR l t w i (n + m)) = itR l t w i n
  | 0 => rfl
  | m + 1 => by
    have ih := itR_over l t w i n h m
    show (match l[i + 1 + (n + m)]? with | some d => itS t w (i + 1 + (n + m)) d (itR l t w i (n + m)) | none => itR l t w i (n + m)) = _
    rw [ih]
    split
    · unfold itS
      rw [if_pos h]
    · rfl
theorem refAt_no {l : List Dd} {i : Nat} {d : Dd} (h : l[i]? = some d) (hs : startB l i = false) : refAt l i = [] := by
  unfold refAt
  rw [h]
  simp [hs]
theorem refAt_yes {l : List Dd} {i : Nat} {d : Dd} (h : l[i]? = some d) (hs : startB l i = true) : refAt l i = [(itR l d.t (atB d) i (l.length - 1 - i)).1] := by
  unfold refAt
  rw [h]
  simp [hs]
set_option maxRecDepth 100000 in
set_option maxHeartbeats 2000000 in
theorem rwaits_ok (A : Option Addr) (l : List Dd) (n c : Nat) (w : World) (hr : Rd (fun b => b < w.heap.size) w A (dds l)) (hl : l.length = n) (hn : n ≤ 1000000) (hR : ∀ d ∈ l, rightB d = true) :
    Calls Try.prog 28 #[.slice A n c] w fun e w' => Below w.heap.size w w' ∧ ∃ v, e = .returned v ∧ w'.ownsRow w.heap.size 60 5 v (refW l l.length).length (wts (refW l l.length)) := by
  subst hl
  obtain ⟨i0, hi0, hz0, hz1, hz2⟩ := info_parts wtInfo
  have HR := Lib.hid hR
  clear hR
  go_enter Try.func28, Try.ntmps28
  go_wp2_with fail
  go_loopw [3, 4] (fun v3 v4 wr => ∃ i : Nat, i ≤ l.length ∧ v4 = .int .i64 i ∧ WR w v3 (refW l i) wr) (fun _ v _ => l.length - (intOf v).toNat)
  case atStart => exact ⟨0, Nat.zero_le _, rfl, own_none _ _ _ _, Below.refl _ _⟩
  case round =>
    obtain ⟨i, hk, rfl, hW⟩ := hrel
    by_cases hlt : i < l.length
    · obtain ⟨d, hd⟩ : ∃ d, l[i]? = some d := ⟨_, List.getElem?_eq_getElem hlt⟩
      have hrr := hr.keep (Ch.of_below hW.below (fun _ => False)) (fun _ _ _ e => e)
      obtain ⟨b, o, rfl, _, _, hcell⟩ := rd_dd hrr hd
      have HAT := Lib.hid (atB_right (HR.out d (List.mem_iff_getElem?.2 ⟨i, hd⟩)))
      have HST := Lib.hid (startB_iff hd)
      have HD := Lib.hid hd
      have hat := rat_ok d wr
      have HLN := refW_len l i
      have HREF := Lib.hid (show refW l (i + 1) = refW l i ++ refAt l i from rfl)
      have HNO := Lib.hid (refAt_no hd)
      have HYES := Lib.hid (refAt_yes hd)
      obtain ⟨t, kd, y, bb, aa, wt, en⟩ := d
      obtain ⟨a, ha⟩ : ∃ a, atB ⟨t, kd, y, bb, aa, wt, en⟩ = a := ⟨_, rfl⟩
      rw [ha] at hat HAT HST HYES
      simp only [Dd.cells] at hat
      have c0 := hcell 0 _ rfl
      have c1 := hcell 1 _ rfl
      have c2 := hcell 2 _ rfl
      have c3 := hcell 3 _ rfl
      have c4 := hcell 4 _ rfl
      have c5 := hcell 5 _ rfl
      have c6 := hcell 6 _ rfl
      simp only [Nat.add_zero] at c0
      have i1 : (0 : Int) ≤ i := Int.natCast_nonneg _
      have i2 : (i : Int) < l.length := by omega
      have HRD := Lib.hid hr
      have HA := Lib.hid ha
      clear hcell hd hr hrr ha
      go_upto_region 6 with (go_at_call 23; refine hat.mono ?_; rintro e w1 ⟨rfl, hb1⟩)
      have hW1 := hW.next hb1
      have hbf := rbefore_ok (some ⟨b, o, none⟩) l l.length c i _ w1 ((HRD.out.mono (fun _ _ _ => trivial)).keep (Ch.of_below hW1.below (fun _ => False)) (fun _ _ _ e => e)) rfl hn HD.out
      clear hat hW hb1 c0 c1 c2 c3 c4 c5 c6
      go_upto_region 7 with (go_at_call 58; refine hbf.mono ?_; rintro e w2 ⟨hb2, v, rfl, hP⟩)
      have hW2 := hW1.next hb2
      have HP := Lib.hid hP
      clear hbf hW1 hb2 hP
      go_cut [37] (fun s37 wx => s37 = .bool (!(startB l i)) ∧ WR w u3 (refW l i) wx)
      case first =>
        by_cases h0 : a < 0
        · have d1 : decide (a < 0) = true := decide_eq_true h0
          have HS := Lib.hid (show startB l i = false by rw [← Bool.not_eq_true, HST.out]; omega)
          clear h0
          go_wp2_with fail
          go_meet
          exact ⟨by rw [HS.out]; rfl, hW2⟩
        · have d1 : decide (a < 0) = false := decide_eq_false h0
          rcases HP.out with ⟨rfl, hV⟩ | ⟨k, x, rfl, hki, hx, hV⟩
          · have HS := Lib.hid (show startB l i = true by rw [HST.out]; exact ⟨by omega, by rw [hV]; omega⟩)
            clear hV h0
            go_wp2_with fail
            go_meet
            exact ⟨by rw [HS.out]; rfl, hW2⟩
          · obtain ⟨b', o', hA', _, _, hcell⟩ := rd_dd (HRD.out.keep (Ch.of_below hW2.below (fun _ => False)) (fun _ _ _ e => e)) hx
            injection hA' with hA'
            injection hA' with e1 e2
            subst e1 e2
            have hat := rat_ok x w2
            obtain ⟨z, hz⟩ : ∃ z, atB x = z := ⟨_, rfl⟩
            have HS := Lib.hid (show startB l i = !(z == a) by
              cases hq : (z == a)
              · rw [beq_eq_false_iff_ne] at hq
                show startB l i = true
                rw [HST.out]
                exact ⟨by omega, by rw [hV, hz]; exact hq⟩
              · rw [beq_iff_eq] at hq
                show startB l i = false
                rw [← Bool.not_eq_true, HST.out]
                rintro ⟨_, h2⟩
                rw [hV, hz] at h2
                exact h2 hq)
            rw [hz] at hat
            clear hz hV h0 hx
            obtain ⟨t2, kd2, x2, bb2, aa2, wt2, en2⟩ := x
            simp only [Dd.cells] at hat
            have c0 := hcell 0 _ rfl
            have c1 := hcell 1 _ rfl
            have c2 := hcell 2 _ rfl
            have c3 := hcell 3 _ rfl
            have c4 := hcell 4 _ rfl
            have c5 := hcell 5 _ rfl
            have c6 := hcell 6 _ rfl
            simp only [Nat.add_zero] at c0
            have j1 : (0 : Int) ≤ k := Int.natCast_nonneg _
            have j2 : (k : Int) < l.length := by omega
            have j3 : decide ((k : Int) ≥ 0) = true := decide_eq_true j1
            clear hcell
            go_wp2_with fail
            refine hat.mono ?_
            rintro e w3 ⟨rfl, hb3⟩
            have hW3 := hW2.next hb3
            clear hat hW2 hb3
            go_wp2_with fail
            go_meet
            exact ⟨by rw [HS.out]; cases (z == a) <;> rfl, hW3⟩
      case rest =>
        obtain ⟨rfl, hW3⟩ := hcut
        clear hW2 HP
        cases hS : startB l i
        · have HN := Lib.hid (show refW l (i + 1) = refW l i by rw [HREF.out, HNO.out hS, List.append_nil])
          clear hS
          go_wp2_with fail
          go_roundw
          case rel => exact ⟨i + 1, by omega, by go_num, by rw [HN.out]; exact hW3⟩
          case measure => simp [intOf]; omega
        · have HN := Lib.hid (HYES.out hS)
          have HS2 := Lib.hid hS
          clear hS
          have hrr := HRD.out.keep (Ch.of_below hW3.below (fun _ => False)) (fun _ _ _ e => e)
          obtain ⟨b', o', hA', _, _, hcell⟩ := rd_dd hrr HD.out
          injection hA' with hA'
          injection hA' with e1 e2
          subst e1 e2
          have c0 := hcell 0 _ rfl
          simp only [Nat.add_zero] at c0
          clear hcell hrr
          go_upto_block 2 with fail
          have hW4 := hW3.next ((Below.refl _ _).alloc (Nat.le_refl _) (.cells [.int .i64 t, .int .i64 a, .int .i64 i, .int .i64 (-1), .int .i64 (-1)].toArray 60))
          have hX4 := Blk.new wc 60 (itR l t a i 0).1.cells
          have HXB := Lib.hid hW3.below.size
          have HOB := Lib.hid (fun j (hj : u3.ownBlock = some j) => (hW3.row.lt j hj).2)
          change Blk (wc.alloc (.cells [.int .i64 t, .int .i64 a, .int .i64 i, .int .i64 (-1), .int .i64 (-1)].toArray 60)) wc.heap.size _ _ at hX4
          clear hW3 c0
          generalize wc.alloc (.cells [.int .i64 t, .int .i64 a, .int .i64 i, .int .i64 (-1), .int .i64 (-1)].toArray 60) = w4 at *
          generalize wc.heap.size = XB at *
          go_cut [] (fun wx => WR w u3 (refW l i) wx ∧ Blk wx XB 60 (itR l t a i (l.length - 1 - i)).1.cells)
          case first =>
            go_wp2_with fail
            go_loopw [8] (fun v8 wr => ∃ m : Nat, v8 = .int .i64 ((i + 1 + m : Nat) : Int) ∧ i + 1 + m ≤ l.length ∧ (itR l t a i m).2 = true ∧ WR w u3 (refW l i) wr ∧ Blk wr XB 60 (itR l t a i m).1.cells) (fun v _ => l.length - (intOf v).toNat)
            case atStart => exact ⟨0, by go_num, by omega, rfl, hW4, hX4⟩
            case round =>
              clear hW4 hX4
              obtain ⟨m, rfl, hm, hop, hW, hX⟩ := hrel
              have HOP := Lib.hid hop
              clear hop
              by_cases hlt2 : i + 1 + m < l.length
              · obtain ⟨e, he⟩ : ∃ d, l[i + 1 + m]? = some d := ⟨_, List.getElem?_eq_getElem hlt2⟩
                have hrr := HRD.out.keep (Ch.of_below hW.below (fun _ => False)) (fun _ _ _ e => e)
                obtain ⟨b', o', hA', _, _, hc1⟩ := rd_dd hrr he
                injection hA' with hA'
                injection hA' with e1 e2
                subst e1 e2
                obtain ⟨b', o', hA', _, _, hc2⟩ := rd_dd hrr HD.out
                injection hA' with hA'
                injection hA' with e1 e2
                subst e1 e2
                have HIT := Lib.hid (itR_succ l t a i m he)
                have HKP := Lib.hid (itR_keep l t a i m)
                have hat := fun W => rat_ok e W
                have hch := fun W => rchanges_ok e a W
                have HITS := Lib.hid (show itS t a (i + 1 + m) e (itR l t a i m) = if e.t = t then ((itR l t a i m).1, decide (atB e = a)) else if chB e a = true then (⟨(itR l t a i m).1.t, (itR l t a i m).1.w, (itR l t a i m).1.f, ((i + 1 + m : Nat) : Int), e.t⟩, true) else itR l t a i m by
                  unfold itS
                  rw [if_neg (by rw [HOP.out]; simp)])
                have HOV := Lib.hid (itR_over l t a i (m + 1))
                obtain ⟨z, hz⟩ : ∃ z, atB e = z := ⟨_, rfl⟩
                obtain ⟨C, hC⟩ : ∃ C, chB e a = C := ⟨_, rfl⟩
                rw [hz] at hat HITS
                rw [hC] at hch HITS
                generalize hP : itR l t a i m = p at *
                have HPP := Lib.hid hP
                obtain ⟨⟨p1, p2, p3, p4, p5⟩, pf⟩ := p
                obtain ⟨t', kd', y', bb', aa', wt', en'⟩ := e
                generalize hN : i + 1 + m = N at *
                have HNN := Lib.hid hN
                simp only at HITS HOP
                simp only [Dd.val, Dd.cells] at hat hch
                have c0 := hc1 0 _ rfl
                have c1 := hc1 1 _ rfl
                have c2 := hc1 2 _ rfl
                have c3 := hc1 3 _ rfl
                have c4 := hc1 4 _ rfl
                have c5 := hc1 5 _ rfl
                have c6 := hc1 6 _ rfl
                have g0 := hc2 0 _ rfl
                simp only [Nat.add_zero] at c0 g0
                have j1 : (0 : Int) ≤ N := Int.natCast_nonneg _
                have j2 : (N : Int) < l.length := by omega
                have j3 : decide ((N : Int) < (l.length : Int)) = true := decide_eq_true j2
                clear hc1 hc2 hrr he hz hC hP hN
                by_cases hq : t' = t
                · have e1 : (t' == t) = true := by rw [beq_iff_eq]; exact hq
                  have e2 : (t' != t) = false := by rw [bne_eq_false_iff_eq]; exact hq
                  have HQ := Lib.hid hq
                  clear hq hch
                  go_upto_region 12 with fail
                  go_region_held3 (fun w' => w'.cell? ⟨b, o + N * 7, none⟩ = some (.int .i64 t') ∧ w'.cell? ⟨b, o + N * 7 + 1, none⟩ = some (.int .i64 kd') ∧ w'.cell? ⟨b, o + N * 7 + 2, none⟩ = some (.int .i64 y') ∧ w'.cell? ⟨b, o + N * 7 + 3, none⟩ = some (.int .u64 bb') ∧ w'.cell? ⟨b, o + N * 7 + 4, none⟩ = some (.int .u64 aa') ∧ w'.cell? ⟨b, o + N * 7 + 5, none⟩ = some (.bool wt') ∧ w'.cell? ⟨b, o + N * 7 + 6, none⟩ = some (.bool en') ∧ w'.cell? ⟨b, o + i * 7, none⟩ = some (.int .i64 t)) ((refine ⟨?_, ?_, ?_, ?_, ?_, ?_, ?_, ?_⟩ <;> first | assumption | go_cell | (exact (Ch.of_below hb' (fun _ => False)).keeps (by assumption) (fun e => e)))) (first | (go_at_call 23; go_split_ands; refine (hat _).mono ?_; rintro e w' ⟨rfl, hb'⟩))
                  have hbw : Below wr.heap.size wr w' := Below.trans (Below.drew (Below.refl _ _)) hb'
                  rename_i hS8
                  obtain ⟨c0, c1, c2, c3, c4, c5, c6, g0⟩ := hS8
                  have hW5 := hW.next hbw
                  have hX5 := hX.keep (Ch.of_below hbw (fun _ => False)) (fun e => e)
                  clear hW hX hb' hbw hat
                  cases hza : (z != a)
                  · have HN := Lib.hid (show itR l t a i (m + 1) = (⟨p1, p2, p3, p4, p5⟩, true) by
                      rw [HIT.out, HITS.out, if_pos HQ.out, decide_eq_true (bne_eq_false_iff_eq.1 hza)])
                    go_wp2_with fail
                    go_upto_region 13 with fail
                    go_quiet (fail)
                    go_wp2_with fail
                    go_roundw
                    case rel => exact ⟨m + 1, by rw [← HNN.out]; go_num, by have := HNN.out; omega, by rw [HN.out], hW5.next (by (repeat' (first | (with_reducible exact Below.refl _ _) | (with_reducible assumption) | (with_reducible refine Below.alloc ?_ ?_ _) | (with_reducible refine Below.drew ?_) | (with_reducible refine below_drewN ?_ _) | (with_reducible refine Below.setCell ?_ ?_ _) | (with_reducible refine Below.trans ?_ (Below.mono (by assumption) ?_)) | (first | go_size | (with_reducible exact Below.size (by assumption)) | (with_reducible exact Nat.le_trans (Below.size (by assumption)) (Below.size (by assumption))) | (refine Nat.le_trans (Below.size (by assumption)) ?_; go_size))))), by rw [HN.out]; exact hX5⟩
                    case measure => simp [intOf]; omega
                  · have HN := Lib.hid (show itR l t a i (m + 1) = (⟨p1, p2, p3, p4, p5⟩, false) by
                      rw [HIT.out, HITS.out, if_pos HQ.out, decide_eq_false (bne_iff_ne.1 hza)])
                    have HE := Lib.hid (show (itR l t a i (l.length - 1 - i)).1 = ⟨p1, p2, p3, p4, p5⟩ by
                      have h1 := HOV.out (by rw [HN.out]) (l.length - 1 - i - (m + 1))
                      rw [show m + 1 + (l.length - 1 - i - (m + 1)) = l.length - 1 - i by have := HNN.out; omega, HN.out] at h1
                      rw [h1])
                    go_wp2_with fail
                    go_meet
                    exact ⟨hW5, by rw [HE.out]; exact hX5⟩
                · have e1 : (t' == t) = false := by rw [beq_eq_false_iff_ne]; exact hq
                  have e2 : (t' != t) = true := by rw [bne_iff_ne]; exact hq
                  have HQ := Lib.hid hq
                  clear hq hat
                  go_upto_region 12 with fail
                  go_quiet (fail)
                  go_wp2_with fail
                  go_upto_region 13 with fail
                  go_region_held3 (fun w' => w'.cell? ⟨b, o + N * 7, none⟩ = some (.int .i64 t') ∧ w'.cell? ⟨b, o + N * 7 + 1, none⟩ = some (.int .i64 kd') ∧ w'.cell? ⟨b, o + N * 7 + 2, none⟩ = some (.int .i64 y') ∧ w'.cell? ⟨b, o + N * 7 + 3, none⟩ = some (.int .u64 bb') ∧ w'.cell? ⟨b, o + N * 7 + 4, none⟩ = some (.int .u64 aa') ∧ w'.cell? ⟨b, o + N * 7 + 5, none⟩ = some (.bool wt') ∧ w'.cell? ⟨b, o + N * 7 + 6, none⟩ = some (.bool en') ∧ w'.cell? ⟨b, o + i * 7, none⟩ = some (.int .i64 t)) ((refine ⟨?_, ?_, ?_, ?_, ?_, ?_, ?_, ?_⟩ <;> first | assumption | go_cell | (exact (Ch.of_below hb' (fun _ => False)).keeps (by assumption) (fun e => e)))) (first | (go_at_call 22; go_split_ands; refine (hch _).mono ?_; rintro e w' ⟨rfl, hb'⟩))
                  rename_i hS8
                  obtain ⟨c0, c1, c2, c3, c4, c5, c6, g0⟩ := hS8
                  have hbw : Below wr.heap.size wr w' := Below.trans (below_drewN (Below.refl _ _) _) hb'
                  have hW5 := hW.next hbw
                  have hX5 := hX.keep (Ch.of_below hbw (fun _ => False)) (fun e => e)
                  clear hW hX hb' hbw hch
                  cases C
                  · have HN := Lib.hid (show itR l t a i (m + 1) = (⟨p1, p2, p3, p4, p5⟩, true) by
                      rw [HIT.out, HITS.out, if_neg HQ.out, if_neg (by simp), HOP.out])
                    go_wp2_with fail
                    go_roundw
                    case rel => exact ⟨m + 1, by rw [← HNN.out]; go_num, by have := HNN.out; omega, by rw [HN.out], hW5, by rw [HN.out]; exact hX5⟩
                    case measure => simp [intOf]; omega
                  · have HN := Lib.hid (show itR l t a i (m + 1) = (⟨p1, p2, p3, N, t'⟩, true) by
                      rw [HIT.out, HITS.out, if_neg HQ.out, if_pos rfl, ← HNN.out])
                    have x3 := hX5.frozen 3
                    have x4 := hX5.frozen 4
                    have xc3 := hX5.cell 3
                    have xc4 := hX5.cell 4
                    simp only [Wt.cells, List.getElem?_cons_succ, List.getElem?_cons_zero] at xc3 xc4
                    have hsc := (((Ch.refl (fun j => j = XB) w').setCell (p := ⟨XB, 3, none⟩) (.inl rfl) (.int .i64 (N : Int))).setCell (p := ⟨XB, 4, none⟩) (.inl rfl) (.int .i64 t')).drew
                    have hXX : Blk ((w'.setCell ⟨XB, 3, none⟩ (.int .i64 (N : Int))).setCell ⟨XB, 4, none⟩ (.int .i64 t')).drew XB 60 (Wt.mk p1 p2 p3 N t').cells := (hX5.set 3 (.int .i64 (N : Int))).set 4 (.int .i64 t')
                    have hW6 : WR w u3 (refW l i) ((w'.setCell ⟨XB, 3, none⟩ (.int .i64 (N : Int))).setCell ⟨XB, 4, none⟩ (.int .i64 t')).drew :=
                      ⟨own_keep hW5.row hsc (fun j hj _ e => by subst e; exact absurd (HOB.out _ hj) (Nat.lt_irrefl _)), hW5.below.trans (hsc.below (fun j _ e => by subst e; exact HXB.out) hW5.below.size)⟩
                    have HFIN := Lib.hid (And.intro hW6 hXX)
                    clear hsc hXX hW6 hW5 hX5
                    go_wp2_with fail
                    go_upto_region 14 with fail
                    go_region
                    go_wp2_with fail
                    go_roundw
                    case rel => exact ⟨m + 1, by rw [← HNN.out]; go_num, by have := HNN.out; omega, by rw [HN.out], HFIN.out.1, by rw [HN.out]; exact HFIN.out.2⟩
                    case measure => simp [intOf]; omega
              · have hmm : l.length - 1 - i = m := by omega
                rw [← hmm] at hX
                have j1 : decide (((i + 1 + m : Nat) : Int) < (l.length : Int)) = false := decide_eq_false (by omega)
                clear hmm
                go_wp2_with fail
                go_meet
                exact ⟨hW, hX⟩
          case rest =>
            obtain ⟨hW5, hX5⟩ := hcut
            obtain ⟨⟨p1, p2, p3, p4, p5⟩, hp⟩ : ∃ p, (itR l t a i (l.length - 1 - i)).1 = p := ⟨_, rfl⟩
            rw [hp] at hX5
            have HPE := Lib.hid hp
            have e0 := hX5.cell 0
            have e1 := hX5.cell 1
            have e2 := hX5.cell 2
            have e3 := hX5.cell 3
            have e4 := hX5.cell 4
            simp only [Wt.cells, List.getElem?_cons_succ, List.getElem?_cons_zero] at e0 e1 e2 e3 e4
            have hrow := hW5.row
            have hbr := Below.refl wc.heap.size wc
            have hbs := hW5.below.size
            clear hp hW4 hX4
            go_wp2_with ((at_builtin; refine wpList_append_rd _ rfl _ _ _ rfl w.heap.size 60 i0 _ 5 40 Try.underlying56 hi0 hz0 hz1 hz2 rfl (by omega) _ _ _ rfl (own_keep (own_keep hrow (Ch.of_below hbr (fun _ => False)) (fun _ _ _ e => e)) ((Ch.refl (fun _ => False) _).alloc _) (fun _ _ _ e => e)) (some ⟨_, 0, none⟩) 1 1 [.int .i64 p1, .int .i64 p2, .int .i64 p3, .int .i64 p4, .int .i64 p5] rfl (Rd.of_blk (G := fun _ => True) (Blk.new _ _ [.int .i64 p1, .int .i64 p2, .int .i64 p3, .int .i64 p4, .int .i64 p5]) (List.prefix_refl _) trivial) (fun h => by cases h) rfl (by simp [Value.oneCell']) (by unfold maxLen; omega) (by omega) (by have := Below.size hbr; simp; omega) ?_))
            intro v3 w3 hown3 hch3 hat3
            have hb3 : Below w.heap.size w w3 := (hW5.below.alloc hW5.below.size _).trans (hch3.below (fun j hj e => ownBlock_ge hrow e) (by simp; omega))
            have hown4 : w3.ownsRow w.heap.size 60 5 v3 (refW l (i + 1)).length (wts (refW l (i + 1))) := by
              rw [HREF.out, HN.out, HPE.out, wts_append, wts_one]
              simpa [Wt.cells] using hown3
            clear hown3 hch3 hat3 hrow hbr hW5 hX5
            go_wp2_with fail
            go_roundw
            case rel => exact ⟨i + 1, by omega, by go_num, hown4, hb3⟩
            case measure => simp [intOf]; omega
    · obtain rfl : i = l.length := by omega
      go_wp2_with fail
      go_ret
      exact ⟨hW.below, _, rfl, hW.row⟩
end Go.Proofs.Ytpndlggahdefcaa
