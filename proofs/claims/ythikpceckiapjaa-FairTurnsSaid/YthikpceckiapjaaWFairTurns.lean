/-
  The walk of FairTurns: it returns true at every input. Printed by gen_wfairturns.py out of WFairTurns.src.
-/
import Derived.Test.YthikpceckiapjaaTFairTurns
namespace Go.Proofs.Ythikpceckiapjaa
open Go.RowKit
namespace FairTurns

/-- the row of a thread after some events, and after some of those that may have passed the next one -/
def rowC (l : List Ev) (t i : Nat) (q : Int) : List Value := [.int .i64 (t : Int), .int .i64 (ans (l.take i) t), .int .i64 (opn (l.take i) t), .int .i64 (tok (l.take i) t), .int .i64 (lng (l.take i) t), .int .i64 q]
theorem own_lt {w : World} {base n k : Nat} {e : TypeId} {size : Nat} {v : Value} {xs : List Value} (h : w.ownsRow base e size v n xs) (hk : v.ownBlock = some k) : k < w.heap.size := by
  rcases h.2 with ⟨rfl, _⟩ | ⟨g, cap, cur, rfl, _, hh, _⟩
  · cases hk
  · injection hk with hk
    subst hk
    rcases Nat.lt_or_ge g w.heap.size with hl | hl
    · exact hl
    · rw [Array.getElem?_eq_none hl] at hh; cases hh
theorem rowC_other (l : List Ev) (t i : Nat) (y : Ev) (h : l[i]? = some y) (hy : ¬ y.t = (t : Int)) : rowC l t (i + 1) (psd l (l.take (i + 1)) t) = rowC l t i (psd l (l.take i) t) := by
  have e1 : isT t y = false := by simp [isT]; omega
  have e2 : isA t y = false := by simp [isA]; omega
  have e3 : isO t y = false := by simp [isO]; omega
  have e4 : tkOf t y = 0 := by simp [tkOf, e2]
  have e5 : psOf l t y = 0 := by simp [psOf, e1]
  unfold rowC
  rw [take_snoc l i y h, ans_snoc, opn_snoc, tok_snoc, lng_snoc, psd_snoc, e2, e3, e4, e5]
  have := (fold_max ((l.take i).map (tkOf t)) 0).1
  have e6 : max (lng (l.take i) t) 0 = lng (l.take i) t := by unfold lng; omega
  rw [e6]
  simp
theorem rowC_open (l : List Ev) (t i : Nat) (y : Ev) (h : l[i]? = some y) (hy : y.t = (t : Int)) (hw : y.w < 0) :
    rowC l t (i + 1) (psd l (l.take (i + 1)) t) = [.int .i64 (t : Int), .int .i64 (ans (l.take i) t), .int .i64 ((opn (l.take i) t : Int) + 1), .int .i64 (tok (l.take i) t), .int .i64 (lng (l.take i) t), .int .i64 ((psd l (l.take i) t : Int) + pas l y)] := by
  have e1 : isT t y = true := by simp [isT, hy]
  have e2 : isA t y = false := by simp [isA]; omega
  have e3 : isO t y = true := by simp [isO]; omega
  have e4 : tkOf t y = 0 := by simp [tkOf, e2]
  have e5 : psOf l t y = pas l y := by simp [psOf, e1]
  unfold rowC
  rw [take_snoc l i y h, ans_snoc, opn_snoc, tok_snoc, lng_snoc, psd_snoc, e2, e3, e4, e5]
  have := (fold_max ((l.take i).map (tkOf t)) 0).1
  have e6 : max (lng (l.take i) t) 0 = lng (l.take i) t := by unfold lng; omega
  rw [e6]
  simp
theorem rowC_done (l : List Ev) (t i : Nat) (y : Ev) (h : l[i]? = some y) (hy : y.t = (t : Int)) (hw : 0 ≤ y.w) :
    rowC l t (i + 1) (psd l (l.take (i + 1)) t) = [.int .i64 (t : Int), .int .i64 ((ans (l.take i) t : Int) + 1), .int .i64 (opn (l.take i) t), .int .i64 (tok (l.take i) t + (y.w - y.a)), .int .i64 (max (lng (l.take i) t) (y.w - y.a)), .int .i64 ((psd l (l.take i) t : Int) + pas l y)] := by
  have e1 : isT t y = true := by simp [isT, hy]
  have e2 : isA t y = true := by simp [isA]; omega
  have e3 : isO t y = false := by simp [isO]; omega
  have e4 : tkOf t y = y.w - y.a := by simp [tkOf, e2]
  have e5 : psOf l t y = pas l y := by simp [psOf, e1]
  unfold rowC
  rw [take_snoc l i y h, ans_snoc, opn_snoc, tok_snoc, lng_snoc, psd_snoc, e2, e3, e4, e5]
  simp
set_option maxRecDepth 100000 in
set_option maxHeartbeats 16000000 in
theorem walk (A : Option Addr) (m c : Nat) (xs : List (List Value)) (lx : xs.length = m) (hmc : m ≤ c) (_hcm : c ≤ 9223372036854775807) (_hz : A = none → c = 0) (at' : Int) (_wa : (Lit.int .i64 at').wf = true) (w : World)
    (hr0 : Rd (fun b => b < w.heap.size) w A xs.flatten) (hfit : ∀ r ∈ xs, Fit evLeaf r) :
    Calls Try.prog 5 #[.slice A m c, .int .i64 at'] w fun e w' => e = .returned (.bool true) ∧ Below w.heap.size w w' := by
  obtain ⟨l, rfl, hl1⟩ := evs_of hfit
  rw [List.length_map] at lx
  subst lx
  have hr : Rd (fun b => b < w.heap.size) w A (evs l) := hr0
  have ho : ∀ e ∈ l, e.one := fun e he => (hl1 e he).1
  clear hr0 hfit hl1
  have HR := Lib.hid (show ∀ W, Below w.heap.size w W → Rd (fun b => b < w.heap.size) W A (evs l) from fun W hW => hr.keep (Ch.of_below hW (fun _ => False)) (fun _ _ _ e => e))
  have HO := Lib.hid ho
  by_cases hlong : 60 < l.length
  · have d1 : decide (60 < (l.length : Int)) = true := decide_eq_true (by omega)
    go_enter Try.func5, Try.ntmps5
    go_wp2_with (go_at_call 6; refine (known_ok _).mono ?_; rintro e w' ⟨rfl, hkb⟩)
    go_ret
    exact ⟨rfl, hkb⟩
  have d1 : decide (60 < (l.length : Int)) = false := decide_eq_false (by omega)
  have hrun := run_ok A l l.length c w hr rfl (by omega) ho
  have hti := fun W hW => Times_ok A l l.length c W (HR.out W hW) rfl (by omega) ho
  by_cases hall : l.all okEv = false
  · rw [hall] at hrun
    have herr : errF l = 2 := by unfold errF; rw [if_neg (by omega), if_neg (by rw [hall]; decide)]
    have htu := fun W hW => lturns_ok A l l.length c none [] 0 0 2 W (G2 := fun _ => True) (HR.out W hW) rfl (by omega) ho (Rd.nil _ _ _) rfl (by omega) (by omega) (fun r hr => by cases hr)
    have hpa := fun W hW => lpasses_ok A l l.length c at' 0 2 W (HR.out W hW) rfl (by omega) ho
    have hev := fun W hW => leven_ok A l l.length c 0 2 W (HR.out W hW) rfl (by omega) ho
    have hwo := fun W hW => lworst_ok A l l.length c 0 2 W (HR.out W hW) rfl (by omega) ho
    rw [show turnsB l [] 2 = true by unfold turnsB turnsR; rw [herr]; simp] at htu
    rw [show ((passR l at' == 0) && (passE l at' == 2)) = true by unfold passR passE; rw [herr]; rfl] at hpa
    rw [show ((evenR l == 0) && (errF l == 2)) = true by unfold evenR; rw [herr]; rfl] at hev
    rw [show ((wstR l == 0) && (errF l == 2)) = true by unfold wstR; rw [herr]; rfl] at hwo
    have HERR := Lib.hid herr
    clear herr hall
    go_enter Try.func5, Try.ntmps5
    go_wp2_with fail
    refine hrun.mono ?_
    rintro e w0 ⟨rfl, hb0⟩
    clear hrun
    go_wp2_with fail
    refine (hti _ hb0).mono ?_
    rintro e w1 ⟨hb1, hcase⟩
    have hb1 := hb0.trans (hb1.mono hb0.size)
    rcases hcase with ⟨_, rfl⟩ | ⟨h0, _⟩
    · rw [HERR.out]
      clear hb0 hti
      go_wp2_with fail
      refine (htu _ hb1).mono ?_
      rintro e w2 ⟨rfl, hb2⟩
      have hb2 := hb1.trans (hb2.mono hb1.size)
      clear htu hb1
      go_wp2_with fail
      refine (hpa _ hb2).mono ?_
      rintro e w3 ⟨rfl, hb3⟩
      have hb3 := hb2.trans (hb3.mono hb2.size)
      clear hpa hb2
      go_wp2_with fail
      refine (hev _ hb3).mono ?_
      rintro e w4 ⟨rfl, hb4⟩
      have hb4 := hb3.trans (hb4.mono hb3.size)
      clear hev hb3
      go_wp2_with fail
      refine (hwo _ hb4).mono ?_
      rintro e w5 ⟨rfl, hb5⟩
      have hb5 := hb4.trans (hb5.mono hb4.size)
      clear hwo hb4
      go_wp2_with fail
      refine (known_ok _).mono ?_
      rintro e w6 ⟨rfl, hb6⟩
      go_wp2_with fail
      go_ret
      exact ⟨rfl, hb5.trans (hb6.mono hb5.size)⟩
    · have := HERR.out
      omega
  have hall : l.all okEv = true := by simpa using hall
  rw [hall] at hrun
  have hokl : ∀ e ∈ l, okEv e = true := List.all_eq_true.1 hall
  have herr : errF l = 0 := by unfold errF; rw [if_neg (by omega), if_pos hall]
  have hl60 : l.length ≤ 60 := by omega
  have HK := Lib.hid hokl
  have HERR := Lib.hid herr
  have HTI := Lib.hid hti
  obtain ⟨i0, hi0, hz0, hz1, hz2⟩ := info_parts turnInfo
  clear hall hokl herr ho hr hti hlong
  go_enter Try.func5, Try.ntmps5
  go_wp2_with fail
  refine hrun.mono ?_
  rintro e w1 ⟨rfl, hb1⟩
  clear hrun d1
  go_upto_region 9 with (refine wl_build 53 _ (tab 46 (fun _ => 0)).toArray ?_ ?_; (focus kernel_rfl))
  have hH0 : HAt (w1.alloc (.cells (tab 46 (fun _ => 0)).toArray 53)) w1.heap.size (histF (tks (l.take 0))) := Blk.new w1 _ _
  have hB0 : Below w.heap.size w (w1.alloc (.cells (tab 46 (fun _ => 0)).toArray 53)) := by (repeat' (first | (with_reducible exact Below.refl _ _) | (with_reducible assumption) | (with_reducible refine Below.alloc ?_ ?_ _) | (with_reducible refine Below.drew ?_) | (with_reducible refine below_drewN ?_ _) | (with_reducible refine Below.setCell ?_ ?_ _) | (with_reducible refine Below.trans ?_ (Below.mono (by assumption) ?_)) | (first | go_size | (with_reducible exact Below.size (by assumption)) | (with_reducible exact Nat.le_trans (Below.size (by assumption)) (Below.size (by assumption))) | (refine Nat.le_trans (Below.size (by assumption)) ?_; go_size))))
  have hz0' := hb1.size
  generalize w1.alloc (.cells (tab 46 (fun _ => 0)).toArray 53) = w2 at hH0 hB0 ⊢
  have hblt : w1.heap.size < w2.heap.size := Blk.lt hH0
  obtain ⟨hb, hhb⟩ : ∃ hb, w1.heap.size = hb := ⟨_, rfl⟩
  rw [hhb] at hH0 hz0' hblt ⊢
  clear hb1 hhb
  go_wp2_with fail
  go_loopw [7, 8, 9, 13] (fun v7 v8 v9 v13 wr => ∃ t : Nat, t ≤ 64 ∧ v13 = .int .i64 t ∧ v8 = .int .i64 (sumA (rowsT l t)) ∧ v9 = .int .i64 (sumQ (rowsT l t)) ∧ wr.ownsRow w2.heap.size 45 6 v7 (rowsT l t).length (turnV (rowsT l t)) ∧ Below w2.heap.size w2 wr) (fun _ _ _ v _ => 64 - (intOf v).toNat)
  case atStart => exact ⟨0, Nat.zero_le _, rfl, rfl, rfl, own_none _ _ _ _, Below.refl _ _⟩
  case round =>
    obtain ⟨t, ht, rfl, rfl, rfl, hown, hbr⟩ := hrel
    by_cases hlt : t < 64
    · clear hH0
      have i1 : (0 : Int) ≤ t := Int.natCast_nonneg _
      have i2 : (t : Int) < 64 := by omega
      have hs1 := sum_bd (rowsT l t) (rowsT_ok l t (by omega))
      have hrl := rowsT_len l t
      have hrs := rowsT_succ l t
      have HRS := Lib.hid hrs
      have hsq : (0 ≤ sumA (rowsT l t) ∧ sumA (rowsT l t) ≤ 64000) ∧ 0 ≤ sumQ (rowsT l t) ∧ sumQ (rowsT l t) ≤ 64000000 := by omega
      generalize rowsT l t = rows at *
      obtain ⟨sA, hsA⟩ : ∃ x, sumA rows = x := ⟨_, rfl⟩
      obtain ⟨sQ, hsQ⟩ : ∃ x, sumQ rows = x := ⟨_, rfl⟩
      rw [hsA, hsQ] at hsq ⊢
      have HSA := Lib.hid hsA
      have HSQ := Lib.hid hsQ
      clear hsA hsQ
      clear hs1 hrs
      have hzr := hbr.size
      go_upto_region 13 with fail
      have hT0 : Blk (wr.alloc (.cells (rowC l t 0 0).toArray 45)) wr.heap.size 45 (rowC l t 0 (psd l (l.take 0) t)) := Blk.new wr _ _
      have e0 : wr.alloc (.cells (rowC l t 0 0).toArray 45) = wr.alloc (.cells #[.int .i64 (t : Int), .int .i64 0, .int .i64 0, .int .i64 0, .int .i64 0, .int .i64 0] 45) := rfl
      rw [e0] at hT0
      have hbT : Below w2.heap.size w2 (wr.alloc (.cells #[.int .i64 (t : Int), .int .i64 0, .int .i64 0, .int .i64 0, .int .i64 0, .int .i64 0] 45)) := by (repeat' (first | (with_reducible exact Below.refl _ _) | (with_reducible assumption) | (with_reducible refine Below.alloc ?_ ?_ _) | (with_reducible refine Below.drew ?_) | (with_reducible refine below_drewN ?_ _) | (with_reducible refine Below.setCell ?_ ?_ _) | (with_reducible refine Below.trans ?_ (Below.mono (by assumption) ?_)) | (first | go_size | (with_reducible exact Below.size (by assumption)) | (with_reducible exact Nat.le_trans (Below.size (by assumption)) (Below.size (by assumption))) | (refine Nat.le_trans (Below.size (by assumption)) ?_; go_size))))
      have hownT := own_keep hown ((Ch.refl (fun _ => False) _).alloc (.cells #[.int .i64 (t : Int), .int .i64 0, .int .i64 0, .int .i64 0, .int .i64 0, .int .i64 0] 45)) (fun _ _ _ e => e)
      have OLT := Lib.hid (show ∀ j, u7.ownBlock = some j → j < wr.heap.size from fun j hj => own_lt hown hj)
      generalize wr.alloc (.cells #[.int .i64 (t : Int), .int .i64 0, .int .i64 0, .int .i64 0, .int .i64 0, .int .i64 0] 45) = wt at *
      obtain ⟨tb, htb⟩ : ∃ tb, wr.heap.size = tb := ⟨_, rfl⟩
      rw [htb] at hT0 hzr OLT ⊢
      clear e0 hown hbr htb
      have HOWN := Lib.hid hownT
      clear hownT
      have hBw : Below w.heap.size w wt := hB0.trans (hbT.mono hB0.size)
      have hzt := hBw.size
      go_wp2_with fail
      go_loopw [15] (fun v15 wq => ∃ i : Nat, i ≤ l.length ∧ v15 = .int .i64 i ∧ Blk wq tb 45 (rowC l t i (psd l (l.take i) t)) ∧ Ch (fun j => j = tb) wt wq) (fun v _ => l.length - (intOf v).toNat)
      case atStart => exact ⟨0, Nat.zero_le _, rfl, hT0, Ch.refl _ _⟩
      case round =>
        clear hT0
        obtain ⟨i, hi, rfl, hT, hcT⟩ := hrel
        have hBq : Below w.heap.size w wr := hBw.trans (hcT.below (fun j _ e => by have := hB0.size; omega) hBw.size)
        by_cases hlt2 : i < l.length
        · obtain ⟨y, hy⟩ : ∃ y, l[i]? = some y := ⟨_, List.getElem?_eq_getElem hlt2⟩
          obtain ⟨b, o, rfl, hbw0, hbl, hcell⟩ := rd_ev (HR.out _ hBq) hy
          have hyk := HK.out y (List.mem_of_getElem? hy)
          obtain ⟨q1, q2, q3, q4, q5⟩ := okEv_iff.1 hyk
          have HY := Lib.hid hy
          have HYK := Lib.hid hyk
          have j1 : (0 : Int) ≤ i := Int.natCast_nonneg _
          have j2 : (i : Int) < l.length := by omega
          have y0 : wr.cell? ⟨b, o + i * 13, none⟩ = some (.int .i64 y.t) := hcell 0 _ rfl
          have hbt : b ≠ tb := by have := hB0.size; omega
          clear hy hyk q5
          by_cases hyt : y.t = (t : Int)
          · have deq : (y.t != (t : Int)) = false := by rw [bne_eq_false_iff_eq]; exact hyt
            have ROPEN := Lib.hid (rowC_open l t i y HY.out hyt)
            have RDONE := Lib.hid (rowC_done l t i y HY.out hyt)
            have hpl := psd_le t l (l.take i)
            have hpn : psd l (l.take i) t ≤ 3600 := by
              have h1 : (l.take i).length ≤ 60 := by rw [List.length_take]; omega
              have := Nat.mul_le_mul h1 hl60
              omega
            have a1 := ans_le (l := l.take i) (t := t)
            have a2 := opn_le (l := l.take i) (t := t)
            have hokt : ∀ e ∈ l.take i, okEv e = true := fun e he => HK.out e (List.mem_of_mem_take he)
            obtain ⟨a3, a4⟩ := tok_bd t _ hokt
            obtain ⟨a5, a6⟩ := lng_bd (t := t) hokt
            have hil : (l.take i).length ≤ 60 := by rw [List.length_take]; omega
            clear hpl hokt
            unfold rowC at hT
            generalize psd l (l.take i) t = P0 at *
            generalize ans (l.take i) t = c1 at *
            generalize opn (l.take i) t = c2 at *
            generalize tok (l.take i) t = c3 at *
            generalize lng (l.take i) t = c4 at *
            have y11 : wr.cell? ⟨b, o + i * 13 + 11, none⟩ = some (.int .i64 y.a) := hcell 11 _ rfl
            have y12 : wr.cell? ⟨b, o + i * 13 + 12, none⟩ = some (.int .i64 y.w) := hcell 12 _ rfl
            have hzq := hBq.size
            go_upto_region 17 with fail
            go_wp2_with fail
            go_loopw [16] (fun v16 wz => ∃ k : Nat, k ≤ l.length ∧ v16 = .int .i64 k ∧ Blk wz tb 45 [.int .i64 (t : Int), .int .i64 (c1 : Int), .int .i64 (c2 : Int), .int .i64 c3, .int .i64 c4, .int .i64 ((P0 : Int) + pas (l.take k) y)] ∧ Ch (fun j => j = tb) wr wz) (fun v _ => l.length - (intOf v).toNat)
            case atStart => exact ⟨0, Nat.zero_le _, rfl, by simpa [pas] using hT, Ch.refl _ _⟩
            case round =>
              clear hT
              obtain ⟨k, hk, rfl, hT3, hC3⟩ := hrel
              have hB3 : Below w.heap.size w wr := hBq.trans (hC3.below (fun j _ e => by have := hB0.size; omega) hBq.size)
              have hcy := range_keep hcell hC3 hbt
              by_cases hlt3 : k < l.length
              · obtain ⟨z, hz⟩ : ∃ z, l[k]? = some z := ⟨_, List.getElem?_eq_getElem hlt3⟩
                obtain ⟨b', o', hbo, _, _, hcz⟩ := rd_ev (HR.out _ hB3) hz
                injection hbo with hbo
                injection hbo with e1 e2
                subst e1 e2
                have hps := pas_snoc (l.take k) z y
                rw [← take_snoc l k z hz] at hps
                have hpk := pas_le (l.take k) y
                have hkl : (l.take k).length ≤ 60 := by rw [List.length_take]; omega
                have hbef := fun W => before_ok z y W HYK.out
                generalize psB z y = B at *
                generalize pas (l.take k) y = Q at *
                have HPS := Lib.hid hps
                have HZ := Lib.hid hz
                have HYT := Lib.hid hyt
                have hTl := Blk.lt hT3
                have k1 : (0 : Int) ≤ k := Int.natCast_nonneg _
                have k2 : (k : Int) < l.length := by omega
                clear hps hz hyt deq y0 y11 y12 hbT hcT hcell
                have HR5 := Lib.hid (And.intro a1 (And.intro a2 (And.intro a3 (And.intro a4 (And.intro a5 a6)))))
                clear a1 a2 a3 a4 a5 a6
                have HYX := Lib.hid (And.intro q1 (And.intro q2 (And.intro q3 q4)))
                clear q1 q2 q3 q4
                obtain ⟨yt, ya, yw, n1, n2, n3, n4, n5, n6, n7, n8, n9, n10⟩ := y
                obtain ⟨zt, za, zw, m1, m2, m3, m4, m5, m6, m7, m8, m9, m10⟩ := z
                simp only [Ev.cells] at hcy hcz
                simp only [Ev.val, Ev.cells] at hbef
                go_upto_region 20 with fail
                refine wp_region_held_drew (S := (fun w' => w'.rangeAt b (o + k * 13) [.int .i64 zt, m1, m2, m3, m4, m5, m6, m7, m8, m9, m10, .int .i64 za, .int .i64 zw] ∧ w'.rangeAt b (o + i * 13) [.int .i64 yt, n1, n2, n3, n4, n5, n6, n7, n8, n9, n10, .int .i64 ya, .int .i64 yw])) (by kernel_rfl) ?hsx (fun hHeld => ?hrx)
                case hsx => exact ⟨(World.rangeAt_drew _ _ _ _).2 hcz, (World.rangeAt_drew _ _ _ _).2 hcy⟩
                case hrx =>
                  obtain ⟨hH1, hH2⟩ := hHeld
                  refine take_yes (i := 0) (v := ?vx1) rfl (by kernel_rfl) (by kernel_rfl) (by kernel_rfl) (fun _ _ _ h => h) (by rfl) ?yx1 ⟨hH1, hH2⟩ ?rx1
                  case yx1 => (intro w hSw; go_simp; (try with_reducible rfl))
                  case rx1 =>
                    try simp only [Act.put, List.setIfInBounds_toArray, List.set_cons_zero, List.set_cons_succ]
                    refine take_yes (i := 1) (v := ?vx2) rfl (by kernel_rfl) (by kernel_rfl) (by kernel_rfl) (fun _ _ _ h => h) (by rfl) ?yx2 ⟨hH1, hH2⟩ ?rx2
                    case yx2 => (intro w hSw; go_simp; (try with_reducible rfl))
                    case rx2 =>
                      try simp only [Act.put, List.setIfInBounds_toArray, List.set_cons_zero, List.set_cons_succ]
                      refine take_yes (i := 2) (v := ?vx3) rfl (by kernel_rfl) (by kernel_rfl) (by kernel_rfl) (fun _ _ _ h => h) (by rfl) ?yx3 ⟨hH1, hH2⟩ ?rx3
                      case yx3 => (intro w hSw; go_simp; (try with_reducible rfl))
                      case rx3 =>
                        try simp only [Act.put, List.setIfInBounds_toArray, List.set_cons_zero, List.set_cons_succ]
                        refine take_mid (i := 3) rfl (by kernel_rfl) (by kernel_rfl) (by kernel_rfl) _ _ rfl b (o + k * 13) ([.int .i64 zt, m1, m2, m3, m4, m5, m6, m7, m8, m9, m10, .int .i64 za, .int .i64 zw]) (fun _ _ _ h => h) (by rfl) rfl _ ?yx4 Try.underlying33 rfl (by kernel_rfl) ⟨hH1, hH2⟩ ?rx4
                        case yx4 => (intro w hSw; exact hSw.1)
                        case rx4 =>
                          try simp only [Act.put, List.setIfInBounds_toArray, List.set_cons_zero, List.set_cons_succ]
                          refine take_yes (i := 4) (v := ?vx5) rfl (by kernel_rfl) (by kernel_rfl) (by kernel_rfl) (fun _ _ _ h => h) (by rfl) ?yx5 ⟨hH1, hH2⟩ ?rx5
                          case yx5 => (intro w hSw; go_simp; (try with_reducible rfl))
                          case rx5 =>
                            try simp only [Act.put, List.setIfInBounds_toArray, List.set_cons_zero, List.set_cons_succ]
                            refine take_yes (i := 5) (v := ?vx6) rfl (by kernel_rfl) (by kernel_rfl) (by kernel_rfl) (fun _ _ _ h => h) (by rfl) ?yx6 ⟨hH1, hH2⟩ ?rx6
                            case yx6 => (intro w hSw; go_simp; (try with_reducible rfl))
                            case rx6 =>
                              try simp only [Act.put, List.setIfInBounds_toArray, List.set_cons_zero, List.set_cons_succ]
                              refine take_yes (i := 6) (v := ?vx7) rfl (by kernel_rfl) (by kernel_rfl) (by kernel_rfl) (fun _ _ _ h => h) (by rfl) ?yx7 ⟨hH1, hH2⟩ ?rx7
                              case yx7 => (intro w hSw; go_simp; (try with_reducible rfl))
                              case rx7 =>
                                try simp only [Act.put, List.setIfInBounds_toArray, List.set_cons_zero, List.set_cons_succ]
                                refine take_mid (i := 7) rfl (by kernel_rfl) (by kernel_rfl) (by kernel_rfl) _ _ rfl b (o + i * 13) ([.int .i64 yt, n1, n2, n3, n4, n5, n6, n7, n8, n9, n10, .int .i64 ya, .int .i64 yw]) (fun _ _ _ h => h) (by rfl) rfl _ ?yx8 Try.underlying33 rfl (by kernel_rfl) ⟨hH1, hH2⟩ ?rx8
                                case yx8 => (intro w hSw; exact hSw.2)
                                case rx8 =>
                                  try simp only [Act.put, List.setIfInBounds_toArray, List.set_cons_zero, List.set_cons_succ]
                                  refine wpAnyH_ready (rs := [8]) (by kernel_rfl) (by simp) ?bx9
                                  case bx9 =>
                                    refine cons_l rfl (fun K hK => ?sx10) ?mx10
                                    case sx10 =>
                                      go_simp
                                      with_reducible refine (hbef _).mono ?_
                                      rintro e w9 ⟨rfl, hB9⟩
                                      go_wp2_with fail
                                      have r1 := range_keep hH1 (Ch.of_below hB9 (fun _ => False)) (fun e => e)
                                      have r2 := range_keep hH2 (Ch.of_below hB9 (fun _ => False)) (fun e => e)
                                      refine hK.out _ _ ⟨r1, r2⟩ (fun hHeld => ?nx10)
                                      case nx10 =>
                                        clear hK K hH1 hH2
                                        obtain ⟨hH1, hH2⟩ := hHeld
                                        try simp only [Act.put, List.setIfInBounds_toArray, List.set_cons_zero, List.set_cons_succ]
                                        refine wpAnyH_done (by kernel_rfl) ?_ _
                                        have hT9 := hT3.keep (Ch.of_below ((Below.refl wr.heap.size wr).drew.trans (hB9.mono (by simp))) (fun _ => False)) (fun e => e)
                                        have hC9 : Ch (fun j => j = tb) _ w9 := hC3.trans (Ch.of_below ((Below.refl wr.heap.size wr).drew.trans (hB9.mono (by simp))) (fun j => j = tb)) (fun _ _ e => e)
                                        cases B
                                        · go_wp2_with fail
                                          go_roundw
                                          case rel => exact ⟨k + 1, by omega, by go_num, by rw [HPS.out]; simpa using hT9, hC9⟩
                                          case measure => simp [intOf]; omega
                                        · have f5 := hT9.cell 5
                                          have z5 := hT9.frozen 5
                                          simp only [List.getElem?_cons_succ, List.getElem?_cons_zero] at f5
                                          have hT10 : Blk (w9.setCell ⟨tb, 5, none⟩ (.int .i64 ((P0 : Int) + Q + 1))) tb 45 [.int .i64 (t : Int), .int .i64 (c1 : Int), .int .i64 (c2 : Int), .int .i64 c3, .int .i64 c4, .int .i64 ((P0 : Int) + Q + 1)] := hT9.set 5 (.int .i64 ((P0 : Int) + Q + 1))
                                          have HT10 := Lib.hid hT10
                                          have HC10 := Lib.hid (hC9.setCell (p := ⟨tb, 5, none⟩) (.inl rfl) (.int .i64 ((P0 : Int) + Q + 1)))
                                          clear hT10
                                          go_wp2_with fail
                                          go_roundw
                                          case rel => exact ⟨k + 1, by omega, by go_num, by rw [HPS.out, if_pos rfl, show ((P0 : Int) + ((Q + 1 : Nat) : Int)) = (P0 : Int) + Q + 1 by omega]; exact HT10.out, HC10.out⟩
                                          case measure => simp [intOf]; omega
                                        
                                    case mx10 =>
                                      exact AllReadyH.nil
              · obtain rfl : k = l.length := by omega
                rw [List.take_length] at hT3
                have hpk := pas_le l y
                generalize pas l y = Q at *
                have x11 : wr.cell? ⟨b, o + i * 13 + 11, none⟩ = some (.int .i64 y.a) := hcy 11 _ rfl
                have x12 : wr.cell? ⟨b, o + i * 13 + 12, none⟩ = some (.int .i64 y.w) := hcy 12 _ rfl
                have hCC : Ch (fun j => j = tb) wt wr := hcT.trans hC3 (fun _ _ e => e)
                have hTl := Blk.lt hT3
                have hyw : y.w ≤ 1099511627776 := by have := (okEv_iff.1 HYK.out).2.2.2.2; omega
                have HYT := Lib.hid hyt
                clear hcy hcell y0 y11 y12 hyt deq hC3 hcT
                generalize y.a = ya at *
                generalize y.w = yw at *
                by_cases hw : yw < 0
                · have hR := ROPEN.out hw
                  have HR2 := Lib.hid hR
                  have f2 := hT3.cell 2
                  have z2 := hT3.frozen 2
                  simp only [List.getElem?_cons_succ, List.getElem?_cons_zero] at f2
                  have hT10 : Blk (wr.setCell ⟨tb, 2, none⟩ (.int .i64 ((c2 : Int) + 1))) tb 45 [.int .i64 (t : Int), .int .i64 (c1 : Int), .int .i64 ((c2 : Int) + 1), .int .i64 c3, .int .i64 c4, .int .i64 ((P0 : Int) + Q)] := hT3.set 2 (.int .i64 ((c2 : Int) + 1))
                  have HT10 := Lib.hid hT10
                  have HC10 := Lib.hid (hCC.setCell (p := ⟨tb, 2, none⟩) (.inl rfl) (.int .i64 ((c2 : Int) + 1)))
                  clear hT10 hR hT3
                  go_wp2_with fail
                  go_roundw
                  case rel => exact ⟨i + 1, by omega, by go_num, by rw [HR2.out]; exact HT10.out, HC10.out⟩
                  case measure => simp [intOf]; omega
                · have hR := RDONE.out (by omega)
                  rw [max_if] at hR
                  have HR2 := Lib.hid hR
                  clear hR
                  go_upto_region 24 with fail
                  go_quiet (fail)
                  have hT4 := hT3.keep (Ch.of_below (below_drewN (Below.refl _ _) nq) (fun _ => False)) (fun e => e)
                  have hC4 := hCC.drewN nq
                  generalize wr.drewN nq = wv at *
                  have f1 := hT4.cell 1
                  have f3 := hT4.cell 3
                  have f4 := hT4.cell 4
                  have z1 := hT4.frozen 1
                  have z3 := hT4.frozen 3
                  have z4 := hT4.frozen 4
                  simp only [List.getElem?_cons_succ, List.getElem?_cons_zero] at f1 f3 f4
                  obtain ⟨v4, hv4⟩ : ∃ v, (if c4 < yw - ya then yw - ya else c4) = v := ⟨_, rfl⟩
                  have hT10 : Blk (((wv.setCell ⟨tb, 1, none⟩ (.int .i64 ((c1 : Int) + 1))).setCell ⟨tb, 3, none⟩ (.int .i64 (c3 + (yw - ya)))).setCell ⟨tb, 4, none⟩ (.int .i64 v4)) tb 45 [.int .i64 (t : Int), .int .i64 ((c1 : Int) + 1), .int .i64 (c2 : Int), .int .i64 (c3 + (yw - ya)), .int .i64 v4, .int .i64 ((P0 : Int) + Q)] := ((hT4.set 1 (.int .i64 ((c1 : Int) + 1))).set 3 (.int .i64 (c3 + (yw - ya)))).set 4 (.int .i64 v4)
                  have HT10 := Lib.hid hT10
                  have HC10 := Lib.hid (((hC4.setCell (p := ⟨tb, 1, none⟩) (.inl rfl) (.int .i64 ((c1 : Int) + 1))).setCell (p := ⟨tb, 3, none⟩) (.inl rfl) (.int .i64 (c3 + (yw - ya)))).setCell (p := ⟨tb, 4, none⟩) (.inl rfl) (.int .i64 v4))
                  clear hT10 hT4 hC4
                  go_wp2_with fail
                  go_roundw
                  case rel => exact ⟨i + 1, by omega, by go_num, by rw [HR2.out, hv4]; exact HT10.out, HC10.out⟩
                  case measure => simp [intOf]; omega
          · have dne : (y.t != (t : Int)) = true := by rw [bne_iff_ne]; exact hyt
            have hrow := rowC_other l t i y HY.out hyt
            have HROW := Lib.hid hrow
            clear hyt hrow
            generalize y.t = yt at *
            go_wp2_with fail
            go_roundw
            case rel => exact ⟨i + 1, by omega, by go_num, by rw [HROW.out]; exact hT, hcT⟩
            case measure => simp [intOf]; omega
        · obtain rfl : i = l.length := by omega
          unfold rowC at hT
          rw [List.take_length] at hT
          have a1 := ans_le (l := l) (t := t)
          have a2 := opn_le (l := l) (t := t)
          have hrs := HRS.out
          simp only [rowT] at hrs
          generalize ans l t = p1 at *
          generalize opn l t = p2 at *
          generalize tok l t = p3 at *
          generalize lng l t = p4 at *
          generalize (psd l l t : Int) = p5 at *
          have HRS2 := Lib.hid hrs
          have hown := own_keep HOWN.out hcT (fun j hj _ e => by have := OLT.out j hj; omega)
          have hB2 : Below w2.heap.size w2 wr := hbT.trans (hcT.below (fun j _ e => by omega) hbT.size)
          have hTl := Blk.lt hT
          have f0 := hT.cell 0
          have f1 := hT.cell 1
          have f2 := hT.cell 2
          have f3 := hT.cell 3
          have f4 := hT.cell 4
          have f5 := hT.cell 5
          simp only [List.getElem?_cons_succ, List.getElem?_cons_zero] at f0 f1 f2 f3 f4 f5
          clear hrs HRS HOWN hcT hBq hbT
          by_cases hp : 0 < p1 + p2
          · have h2 := HRS2.out
            rw [if_pos hp] at h2
            have HS2 := Lib.hid h2
            have hp2 : (0 : Int) < (p1 : Int) + (p2 : Int) := by omega
            have hbr := Below.refl wr.heap.size wr
            have hbz := hB2.size
            clear h2 hp HRS2
            go_wp2_with ((at_builtin; refine wpList_append_rd _ rfl _ _ _ rfl w2.heap.size 45 i0 _ 6 48 Try.underlying41 hi0 hz0 hz1 hz2 rfl (by omega) _ _ _ rfl (own_keep (own_keep hown (Ch.of_below hbr (fun _ => False)) (fun _ _ _ e => e)) ((Ch.refl (fun _ => False) _).alloc _) (fun _ _ _ e => e)) (some ⟨_, 0, none⟩) 1 1 [.int .i64 (t : Int), .int .i64 (p1 : Int), .int .i64 (p2 : Int), .int .i64 p3, .int .i64 p4, .int .i64 p5] rfl (Rd.of_blk (G := fun _ => True) (Blk.new _ _ [.int .i64 (t : Int), .int .i64 (p1 : Int), .int .i64 (p2 : Int), .int .i64 p3, .int .i64 p4, .int .i64 p5]) (List.prefix_refl _) trivial) (fun h => by cases h) rfl (by simp [Value.oneCell']) (by unfold maxLen; omega) (by omega) (by have := Below.size hbr; simp; omega) ?_))
            intro v3 w3 hown3 hch3 hat3
            have hb3 : Below w2.heap.size w2 w3 := (hB2.alloc hB2.size _).trans (hch3.below (fun j hj e => ownBlock_ge hown e) (by have := hB2.size; simp; omega))
            have hown4 : w3.ownsRow w2.heap.size 45 6 v3 (rowsT l (t + 1)).length (turnV (rowsT l (t + 1))) := by rw [HS2.out, turnV_snoc, List.length_append]; exact hown3
            have g1 : w3.cell? ⟨tb, 1, none⟩ = some (.int .i64 (p1 : Int)) := hch3.keeps (((Ch.refl (fun _ => False) wr).alloc _).keeps f1 (fun e => e)) (fun e => by have := OLT.out tb e; omega)
            have hsa : sumA (rowsT l (t + 1)) = sA + p1 := by rw [HS2.out, sumA_snoc, HSA.out]; rfl
            have hsq2 : sumQ (rowsT l (t + 1)) = sQ + p1 * p1 := by rw [HS2.out, sumQ_snoc, HSQ.out]; rfl
            have HSA2 := Lib.hid hsa
            have HSQ2 := Lib.hid hsq2
            obtain ⟨m1, m2⟩ := mul_bd (a := (p1 : Int)) (b := (p1 : Int)) (by omega) (by omega) (by omega) (by omega)
            obtain ⟨M, hM⟩ : ∃ M, (p1 : Int) * (p1 : Int) = M := ⟨_, rfl⟩
            rw [hM] at m1 m2
            have w1' : IntKind.i64.wrap (sA + p1) = sA + p1 := IntWalk.i64_in _ (by omega)
            have w2' : IntKind.i64.wrap M = M := IntWalk.i64_in _ (by omega)
            have w3' : IntKind.i64.wrap (sQ + M) = sQ + M := IntWalk.i64_in _ (by omega)
            clear hch3 hat3 hown hown3 f0 f1 f2 f3 f4 f5 HS2 hsa hsq2 hT hB2
            go_upto_region 28 with fail
            go_quiet (fail)
            go_wp2_with fail
            go_roundw
            case rel => exact ⟨t + 1, by omega, by go_num, by rw [HSA2.out], by rw [HSQ2.out, hM], own_keep hown4 (Ch.of_below (below_drewN (Below.refl _ _) nq) (fun _ => False)) (fun _ _ _ e => e), below_drewN hb3 nq⟩
            case measure => simp [intOf]; omega
          · have hp1 : p1 = 0 := by omega
            have hp2 : p2 = 0 := by omega
            subst hp1 hp2
            have h2 := HRS2.out
            rw [if_neg (by omega)] at h2
            have HS2 := Lib.hid h2
            clear h2 hp HRS2
            go_wp2_with fail
            go_roundw
            case rel => exact ⟨t + 1, by omega, by go_num, by rw [HS2.out, HSA.out], by rw [HS2.out, HSQ.out], by rw [HS2.out]; exact hown, hB2⟩
            case measure => simp [intOf]; omega
    · obtain rfl : t = 64 := by omega
      rw [show ((64 : Nat) : Int) = (64 : Int) from rfl]
      have hH1 : HAt wr hb (histF (tks (l.take 0))) := HAt.keep hH0 (Ch.of_below hbr (fun _ => False)) (fun e => e)
      have hBw : Below w.heap.size w wr := hB0.trans (hbr.mono hB0.size)
      have hzr := hBw.size
      have hwz := hB0.size
      clear hH0 hB0 hbr
      have hrok := rowsT_ok l 64 (by omega)
      have hsix := rowsT_six l 64
      have hrl := rowsT_len l 64
      have hTR : turnsR l = rowsT l 64 := by unfold turnsR; rw [if_neg (by rw [HERR.out]; omega)]
      have hER : evenR l = evenN (rowsT l 64) := by unfold evenR; rw [if_neg (by rw [HERR.out]; omega)]
      generalize rowsT l 64 = rows at *
      have HTR := Lib.hid hTR
      have HER := Lib.hid hER
      have hsb := sum_bd rows hrok
      have HEV := Lib.hid (show evenN rows = if sumA rows = 0 then 1000 else 1000 * sumA rows * sumA rows / (rows.length * sumQ rows) from rfl)
      generalize sumA rows = sA at *
      generalize sumQ rows = sQ at *
      generalize evenN rows = EV at *
      have HSB := Lib.hid hsb
      have HOWN := Lib.hid hown
      clear hTR hER hsb hown hrok
      go_wp2_with fail
      go_loopw [10, 11, 18] (fun v10 v11 v18 wq => ∃ i : Nat, i ≤ l.length ∧ v18 = .int .i64 i ∧ v10 = .int .i64 (wst (l.take i)).2 ∧ v11 = .int .i64 (wst (l.take i)).1 ∧ HAt wq hb (histF (tks (l.take i))) ∧ Ch (fun j => j = hb) wr wq) (fun _ _ v _ => l.length - (intOf v).toNat)
      case atStart => exact ⟨0, Nat.zero_le _, rfl, rfl, rfl, hH1, Ch.refl _ _⟩
      case round =>
        clear hH1
        obtain ⟨i, hi, rfl, rfl, rfl, hH, hcH⟩ := hrel
        have hBq : Below w.heap.size w wr := hBw.trans (hcH.below (fun j _ e => by omega) hBw.size)
        by_cases hlt2 : i < l.length
        · obtain ⟨y, hy⟩ : ∃ y, l[i]? = some y := ⟨_, List.getElem?_eq_getElem hlt2⟩
          obtain ⟨b, o, rfl, hbw0, hbl, hcell⟩ := rd_ev (HR.out _ hBq) hy
          have hyk := HK.out y (List.mem_of_getElem? hy)
          have HY := Lib.hid hy
          have HYK := Lib.hid hyk
          have j1 : (0 : Int) ≤ i := Int.natCast_nonneg _
          have j2 : (i : Int) < l.length := by omega
          have hbd := wst_bd (l.take i).length (l.take i) (fun e he => HK.out e (List.mem_of_mem_take he)) rfl
          have hws := wst_snoc (l.take i) y
          rw [← take_snoc l i y hy] at hws
          rw [List.length_take, Nat.min_eq_left (by omega)] at hbd hws
          generalize wst (l.take i) = s at *
          obtain ⟨s1, s2⟩ := s
          simp only at hbd hws ⊢
          have HWS := Lib.hid hws
          obtain ⟨⟨b1, b2⟩, b3, b4⟩ := hbd
          have hzq := hBq.size
          clear hy hyk hws
          go_wp2_with fail
          go_loopw [19, 20] (fun v19 v20 wz => ∃ k : Nat, k ≤ l.length ∧ v20 = .int .i64 k ∧ v19 = .int .i64 (pas (l.take k) y) ∧ Below wr.heap.size wr wz) (fun _ v _ => l.length - (intOf v).toNat)
          case atStart => exact ⟨0, Nat.zero_le _, rfl, rfl, Below.refl _ _⟩
          case round =>
            obtain ⟨k, hk, rfl, rfl, hb3⟩ := hrel
            have hB3 : Below w.heap.size w wr := hBq.trans (hb3.mono hBq.size)
            have hcy := range_keep hcell (Ch.of_below hb3 (fun _ => False)) (fun e => e)
            by_cases hlt3 : k < l.length
            · obtain ⟨z, hz⟩ : ∃ z, l[k]? = some z := ⟨_, List.getElem?_eq_getElem hlt3⟩
              obtain ⟨b', o', hbo, _, _, hcz⟩ := rd_ev (HR.out _ hB3) hz
              injection hbo with hbo
              injection hbo with e1 e2
              subst e1 e2
              have hps := pas_snoc (l.take k) z y
              rw [← take_snoc l k z hz] at hps
              have hpk := pas_le (l.take k) y
              have hkl : (l.take k).length ≤ 60 := by rw [List.length_take]; omega
              have hbef := fun W => before_ok z y W HYK.out
              generalize psB z y = B at *
              generalize pas (l.take k) y = Q at *
              have HPS := Lib.hid hps
              have k1 : (0 : Int) ≤ k := Int.natCast_nonneg _
              have k2 : (k : Int) < l.length := by omega
              clear hps hz hcell
              obtain ⟨yt, ya, yw, n1, n2, n3, n4, n5, n6, n7, n8, n9, n10⟩ := y
              obtain ⟨zt, za, zw, m1, m2, m3, m4, m5, m6, m7, m8, m9, m10⟩ := z
              simp only [Ev.cells] at hcy hcz
              simp only [Ev.val, Ev.cells] at hbef
              go_upto_region 36 with fail
              refine wp_region_held_drew (S := (fun w' => w'.rangeAt b (o + k * 13) [.int .i64 zt, m1, m2, m3, m4, m5, m6, m7, m8, m9, m10, .int .i64 za, .int .i64 zw] ∧ w'.rangeAt b (o + i * 13) [.int .i64 yt, n1, n2, n3, n4, n5, n6, n7, n8, n9, n10, .int .i64 ya, .int .i64 yw])) (by kernel_rfl) ?hsz (fun hHeld => ?hrz)
              case hsz => exact ⟨(World.rangeAt_drew _ _ _ _).2 hcz, (World.rangeAt_drew _ _ _ _).2 hcy⟩
              case hrz =>
                obtain ⟨hH1, hH2⟩ := hHeld
                refine take_yes (i := 0) (v := ?vz1) rfl (by kernel_rfl) (by kernel_rfl) (by kernel_rfl) (fun _ _ _ h => h) (by rfl) ?yz1 ⟨hH1, hH2⟩ ?rz1
                case yz1 => (intro w hSw; go_simp; (try with_reducible rfl))
                case rz1 =>
                  try simp only [Act.put, List.setIfInBounds_toArray, List.set_cons_zero, List.set_cons_succ]
                  refine take_yes (i := 1) (v := ?vz2) rfl (by kernel_rfl) (by kernel_rfl) (by kernel_rfl) (fun _ _ _ h => h) (by rfl) ?yz2 ⟨hH1, hH2⟩ ?rz2
                  case yz2 => (intro w hSw; go_simp; (try with_reducible rfl))
                  case rz2 =>
                    try simp only [Act.put, List.setIfInBounds_toArray, List.set_cons_zero, List.set_cons_succ]
                    refine take_yes (i := 2) (v := ?vz3) rfl (by kernel_rfl) (by kernel_rfl) (by kernel_rfl) (fun _ _ _ h => h) (by rfl) ?yz3 ⟨hH1, hH2⟩ ?rz3
                    case yz3 => (intro w hSw; go_simp; (try with_reducible rfl))
                    case rz3 =>
                      try simp only [Act.put, List.setIfInBounds_toArray, List.set_cons_zero, List.set_cons_succ]
                      refine take_mid (i := 3) rfl (by kernel_rfl) (by kernel_rfl) (by kernel_rfl) _ _ rfl b (o + k * 13) ([.int .i64 zt, m1, m2, m3, m4, m5, m6, m7, m8, m9, m10, .int .i64 za, .int .i64 zw]) (fun _ _ _ h => h) (by rfl) rfl _ ?yz4 Try.underlying33 rfl (by kernel_rfl) ⟨hH1, hH2⟩ ?rz4
                      case yz4 => (intro w hSw; exact hSw.1)
                      case rz4 =>
                        try simp only [Act.put, List.setIfInBounds_toArray, List.set_cons_zero, List.set_cons_succ]
                        refine take_yes (i := 4) (v := ?vz5) rfl (by kernel_rfl) (by kernel_rfl) (by kernel_rfl) (fun _ _ _ h => h) (by rfl) ?yz5 ⟨hH1, hH2⟩ ?rz5
                        case yz5 => (intro w hSw; go_simp; (try with_reducible rfl))
                        case rz5 =>
                          try simp only [Act.put, List.setIfInBounds_toArray, List.set_cons_zero, List.set_cons_succ]
                          refine take_yes (i := 5) (v := ?vz6) rfl (by kernel_rfl) (by kernel_rfl) (by kernel_rfl) (fun _ _ _ h => h) (by rfl) ?yz6 ⟨hH1, hH2⟩ ?rz6
                          case yz6 => (intro w hSw; go_simp; (try with_reducible rfl))
                          case rz6 =>
                            try simp only [Act.put, List.setIfInBounds_toArray, List.set_cons_zero, List.set_cons_succ]
                            refine take_yes (i := 6) (v := ?vz7) rfl (by kernel_rfl) (by kernel_rfl) (by kernel_rfl) (fun _ _ _ h => h) (by rfl) ?yz7 ⟨hH1, hH2⟩ ?rz7
                            case yz7 => (intro w hSw; go_simp; (try with_reducible rfl))
                            case rz7 =>
                              try simp only [Act.put, List.setIfInBounds_toArray, List.set_cons_zero, List.set_cons_succ]
                              refine take_mid (i := 7) rfl (by kernel_rfl) (by kernel_rfl) (by kernel_rfl) _ _ rfl b (o + i * 13) ([.int .i64 yt, n1, n2, n3, n4, n5, n6, n7, n8, n9, n10, .int .i64 ya, .int .i64 yw]) (fun _ _ _ h => h) (by rfl) rfl _ ?yz8 Try.underlying33 rfl (by kernel_rfl) ⟨hH1, hH2⟩ ?rz8
                              case yz8 => (intro w hSw; exact hSw.2)
                              case rz8 =>
                                try simp only [Act.put, List.setIfInBounds_toArray, List.set_cons_zero, List.set_cons_succ]
                                refine wpAnyH_ready (rs := [8]) (by kernel_rfl) (by simp) ?bz9
                                case bz9 =>
                                  refine cons_l rfl (fun K hK => ?sz10) ?mz10
                                  case sz10 =>
                                    go_simp
                                    with_reducible refine (hbef _).mono ?_
                                    rintro e w9 ⟨rfl, hB9⟩
                                    go_wp2_with fail
                                    have r1 := range_keep hH1 (Ch.of_below hB9 (fun _ => False)) (fun e => e)
                                    have r2 := range_keep hH2 (Ch.of_below hB9 (fun _ => False)) (fun e => e)
                                    refine hK.out _ _ ⟨r1, r2⟩ (fun hHeld => ?nz10)
                                    case nz10 =>
                                      clear hK K hH1 hH2
                                      obtain ⟨hH1, hH2⟩ := hHeld
                                      try simp only [Act.put, List.setIfInBounds_toArray, List.set_cons_zero, List.set_cons_succ]
                                      refine wpAnyH_done (by kernel_rfl) ?_ _
                                      have hb9 : Below _ _ w9 := hb3.trans (((Below.refl wr.heap.size wr).drew.trans (hB9.mono (by simp))).mono hb3.size)
                                      cases B
                                      · go_wp2_with fail
                                        go_roundw
                                        case rel => exact ⟨k + 1, by omega, by go_num, by rw [HPS.out]; rfl, hb9⟩
                                        case measure => simp [intOf]; omega
                                      · go_wp2_with fail
                                        go_roundw
                                        case rel => exact ⟨k + 1, by omega, by go_num, by rw [HPS.out, if_pos rfl]; exact val_int (by omega), hb9⟩
                                        case measure => simp [intOf]; omega
                                      
                                  case mz10 =>
                                    exact AllReadyH.nil
            · obtain rfl : k = l.length := by omega
              rw [List.take_length]
              have hpe : passE l (i : Nat) = 0 := by unfold passE; rw [if_neg (by rw [HERR.out]; omega), if_neg (by omega)]
              have hpr : passR l (i : Nat) = pas l y := by
                unfold passR passN
                rw [if_neg (by rw [hpe]; omega), Int.toNat_natCast, HY.out]
              have hpc := fun W hW => lpasses_ok (some ⟨b, o, none⟩) l l.length c (i : Nat) (pas l y) 0 W (HR.out W hW) rfl (by omega) HO.out
              rw [hpr, hpe, show (((pas l y : Int) == (pas l y : Int)) && ((0 : Int) == 0)) = true by simp] at hpc
              have htk : ∀ e ∈ l.take i, okEv e = true := fun e he => HK.out e (List.mem_of_mem_take he)
              have htl := tks_len (l.take i)
              rw [List.length_take] at htl
              have hsn := tks_snoc (l.take i) y
              rw [← take_snoc l i y HY.out] at hsn
              have hadd := fun n W hW => hadd_ok hb (tks (l.take i)) n W hW (by omega) (tks_ok htk)
              have hHz := HAt.keep hH (Ch.of_below hb3 (fun _ => False)) (fun e => e)
              have hHlt := Blk.lt hHz
              obtain ⟨q1, q2, q3, q4, q5⟩ := okEv_iff.1 HYK.out
              generalize tks (l.take i) = ts at *
              generalize pas l y = Q at *
              have HSN := Lib.hid hsn
              have HADD := Lib.hid hadd
              have hcC := hcH.trans (Ch.of_below hb3 (fun j => j = hb)) (fun _ _ e => e)
              clear hsn hadd htk hpr hpe htl hcell hH hcH
              go_upto_region 38 with fail
              go_wp2_with fail
              refine (hpc _ hB3).mono ?_
              rintro e w5 ⟨rfl, hb5⟩
              have hcy5 := range_keep hcy (Ch.of_below hb5 (fun _ => False)) (fun e => e)
              have y11 : w5.cell? ⟨b, o + i * 13 + 11, none⟩ = some (.int .i64 y.a) := hcy5 11 _ rfl
              have y12 : w5.cell? ⟨b, o + i * 13 + 12, none⟩ = some (.int .i64 y.w) := hcy5 12 _ rfl
              have hH5 := HAt.keep hHz (Ch.of_below hb5 (fun _ => False)) (fun e => e)
              have hC5 := hcC.trans (Ch.of_below hb5 (fun j => j = hb)) (fun _ _ e => e)
              have hyw : y.w - y.a ≤ 1099511627776 := by omega
              have hyw2 : -1099511627777 ≤ y.w - y.a := by omega
              have hza : IntKind.i64.wrap (y.w - y.a) = y.w - y.a := IntWalk.i64_in _ (by omega)
              clear hcy hcy5 hcC hHz hpc hb5 hb3
              generalize y.a = ya at *
              generalize y.w = yw at *
              go_upto_region 40 with fail
              go_quiet (fail)
              have hH6 := HAt.keep hH5 (Ch.of_below (below_drewN (Below.refl _ _) nq) (fun _ => False)) (fun e => e)
              have hC6 := hC5.drewN nq
              have y12' := (Below.cell (below_drewN (Below.refl w5.heap.size w5) nq) (p := ⟨b, o + i * 13 + 12, none⟩) (World.block_lt_of_cell? _ _ y12)).trans y12
              generalize w5.drewN nq = w6 at *
              clear hH5 hC5 y11 y12
              by_cases hw : 0 ≤ yw
              · have dw : decide (0 ≤ yw) = true := decide_eq_true hw
                have h3 := HSN.out
                rw [if_pos hw] at h3
                have H3 := Lib.hid h3
                have ha := HADD.out (yw - ya) w6 hH6 (by omega) (by omega)
                clear h3 HSN HADD q5
                go_upto_region 43 with (go_at_call 17; refine ha.mono ?_; rintro e w7 ⟨rfl, hH7, hC7⟩)
                have hC7 := hC6.trans hC7 (fun _ _ e => e)
                by_cases hs : s2 < yw - ya
                · have h4 := HWS.out
                  rw [if_pos ⟨hw, hs⟩] at h4
                  have H4 := Lib.hid h4
                  clear h4 HWS
                  go_wp2_with fail
                  go_roundw
                  case rel => exact ⟨i + 1, by omega, by go_num, by rw [H4.out], by rw [H4.out], by rw [H3.out]; exact hH7, hC7⟩
                  case measure => simp [intOf]; omega
                · have h4 := HWS.out
                  rw [if_neg (fun h => hs h.2)] at h4
                  have H4 := Lib.hid h4
                  clear h4 HWS
                  go_wp2_with fail
                  go_roundw
                  case rel => exact ⟨i + 1, by omega, by go_num, by rw [H4.out], by rw [H4.out], by rw [H3.out]; exact hH7, hC7⟩
                  case measure => simp [intOf]; omega
              · have dw : decide (0 ≤ yw) = false := decide_eq_false hw
                have h3 := HSN.out
                rw [if_neg hw] at h3
                have H3 := Lib.hid h3
                have h4 := HWS.out
                rw [if_neg (fun h => hw h.1)] at h4
                have H4 := Lib.hid h4
                clear h3 HSN HADD q5 h4 HWS
                go_wp2_with fail
                go_roundw
                case rel => exact ⟨i + 1, by omega, by go_num, by rw [H4.out], by rw [H4.out], by rw [H3.out]; exact hH6, hC6⟩
                case measure => simp [intOf]; omega
        · obtain rfl : i = l.length := by omega
          rw [List.take_length] at hH ⊢
          have hown := own_keep HOWN.out hcH (fun j _ hge e => by omega)
          obtain ⟨A7, c7, rfl, hc7, hA7⟩ := own_slice hown
          have hcap := own_cap hown
          have hR7 : Rd (fun _ => True) wr A7 (turnV rows) := (Rd.of_own hown).mono (fun _ _ _ => trivial)
          have HR7 := Lib.hid (show ∀ W, Below wr.heap.size wr W → Rd (fun _ => True) W A7 (turnV rows) from fun W hW => hR7.keep (Ch.of_below hW (fun _ => False)) (fun _ _ _ e => e))
          have HHB := Lib.hid (show ∀ W, Below wr.heap.size wr W → HAt W hb (histF (tks l)) from fun W hW => HAt.keep hH (Ch.of_below hW (fun _ => False)) (fun e => e))
          have HRW := Lib.hid (show ∀ W, Below wr.heap.size wr W → Below w.heap.size w W from fun W hW => hBq.trans (hW.mono hBq.size))
          have hti := HTI.out wr hBq
          have htu := fun W hW => lturns_ok A l l.length c A7 rows rows.length c7 0 W (HR.out W (HRW.out W hW)) rfl (by omega) HO.out (HR7.out W hW) rfl hc7 hcap hsix
          have hev := fun W hW => leven_ok A l l.length c EV 0 W (HR.out W (HRW.out W hW)) rfl (by omega) HO.out
          have hwo := fun W hW => lworst_ok A l l.length c (wst l).1 0 W (HR.out W (HRW.out W hW)) rfl (by omega) HO.out
          have hpa := fun W hW => lpasses_ok A l l.length c at' 0 3 W (HR.out W (HRW.out W hW)) rfl (by omega) HO.out
          rw [show turnsB l rows 0 = true by unfold turnsB; rw [HTR.out, HERR.out]; simp] at htu
          rw [show ((evenR l == EV) && (errF l == 0)) = true by rw [HER.out, HERR.out]; simp] at hev
          rw [show ((wstR l == (wst l).1) && (errF l == 0)) = true by unfold wstR; rw [HERR.out]; simp] at hwo
          have HTU := Lib.hid htu
          have HEVC := Lib.hid hev
          have HWO := Lib.hid hwo
          have HPA := Lib.hid hpa
          obtain ⟨⟨b1, b2⟩, ⟨b3, b4⟩, b5⟩ := HSB.out
          generalize (wst l).1 = ws1 at *
          generalize (wst l).2 = ws2 at *
          clear htu hev hwo hpa hR7 hown hcH hH hsix
          go_upto_if 213 with fail
          go_cut [22] (fun s22 wx => s22 = .int .i64 EV ∧ Below wr.heap.size wr wx)
          case first =>
            by_cases hz : sA = 0
            · have hE := HEV.out
              rw [if_pos hz] at hE
              have hz2 : ¬ 0 < sA := by omega
              subst hE
              clear hz
              go_wp2_with fail
              go_meet
              exact ⟨rfl, Below.refl _ _⟩
            · have hz1 : 0 < sA := by omega
              have hq := b5 hz
              have hlen : 0 < rows.length := by
                rcases Nat.eq_zero_or_pos rows.length with h0 | h0
                · omega
                · exact h0
              have hq2 : (0 : Int) < (rows.length : Int) * sQ := Int.mul_pos (by omega) hq
              have hq3 : (rows.length : Int) * sQ ≤ 64 * 64000000 := Int.mul_le_mul (by omega) (by omega) (by omega) (by omega)
              have hq4 : 0 ≤ 1000 * sA * sA := Int.mul_nonneg (by omega) b1
              have hq5 : 1000 * sA * sA ≤ (1000 * 64000) * 64000 := Int.mul_le_mul (by omega) (by omega) b1 (by omega)
              have hq6 : ((rows.length : Int) * sQ == 0) = false := by rw [beq_eq_false_iff_ne]; omega
              have hE := HEV.out
              rw [if_neg hz] at hE
              subst hE
              clear b5 hz HEV
              go_wp2_with fail
              go_meet
              exact ⟨rfl, Below.refl _ _⟩
          case rest =>
            obtain ⟨rfl, hx⟩ := hcut
            clear b1 b2 b3 b4 b5 HEV HSB
            rename_i K0 aK
            refine aK _ _ ?_
            exact tail48 A A7 l c c7 hb rows EV ws1 at' w _ _ HERR HRW HTU HEVC HWO HPA HTI HHB hx _ _ _ _ _ _ _ _ _ _ _ _ _ _ _ _ _ _ _ _ _ _ _ _ _ _ _ _ _ _ _ _ _ _ _ _ _ _ _ _ _ _ _ _ _ _ _ _ _ _ _ _ _ _ _ _ _ _ _ _ _ _ _ _ _ _ _ _ _ _ _ _ _ _ _ _ _ _ _ _ _ _ _ _ _ _ _ _ _ _ _ _ _ _ _ _ _ _ _ _ _ _ _ _ _ _ _ _ _ _ _ _ _ _ _ _ _ _ _ _ _ _ _ _ _ _ _ _ _ _ _ _ _ _ _ _ _ _ _ _ _ _ _ _ _ _ _ _ _ _ _ _ _ _ _ _ _ _ _ _ _ _ _ _ _ _ _ _ _ _ _ _ _ _ _ _ _ _ _ _ _ _ _ _ _ _ _ _ _ _ _ _ _ _ _ _ _ _ _ _ _ _ _ _ _ _ _ _ _ _ _ _ _ _ _ _ _ _ _ _ _ _ _ _ _ _ _ _ _ _ _ _ _ _ _ _ _ _ _ _ _ _ _ _ _ _ _ _ _ _ _ _ _ _ _ _ _ _ _ _ _ _ _ _ _ _ _ _ _ _ _ _ _ _ _ _ _ _ _
end FairTurns
end Go.Proofs.Ythikpceckiapjaa
