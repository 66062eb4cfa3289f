/-
  The walk of FairMany: it returns true at every input.
-/
import Derived.Test.YthikpceckiapjaaKFair
namespace Go.Proofs.Ythikpceckiapjaa
open Go.RowKit
namespace FairMany

def lm (c : Int) (n : Nat) : List Ev := (List.range n).map fun i => ev0 ((i % 64 : Nat) : Int) (i : Nat) ((i : Nat) + c)
theorem lm_succ (c : Int) (n : Nat) : lm c (n + 1) = lm c n ++ [ev0 ((n % 64 : Nat) : Int) (n : Nat) ((n : Nat) + c)] := by simp [lm, List.range_succ]
theorem lm_len (c : Int) (n : Nat) : (lm c n).length = n := by simp [lm]
theorem lm_one (c : Int) (n : Nat) : ∀ e ∈ lm c n, e.one := by
  intro e he
  obtain ⟨i, _, rfl⟩ := List.mem_map.1 he
  exact ev0_one _ _ _
theorem lm_ok {c : Int} (h0 : 0 ≤ c) (h1 : c ≤ 1000) {n : Nat} (hn : n ≤ 1002) : ∀ e ∈ lm c n, okEv e = true := by
  intro e he
  obtain ⟨i, hi, rfl⟩ := List.mem_map.1 he
  have := List.mem_range.1 hi
  refine okEv_iff.2 ⟨?_, ?_, ?_, ?_, .inr ⟨?_, ?_⟩⟩ <;> (simp only [ev0]; omega)
theorem lm_pas {c : Int} (h0 : 0 ≤ c) (n i : Nat) : pas (lm c n) (ev0 ((i % 64 : Nat) : Int) (i : Nat) ((i : Nat) + c)) = 0 := by
  unfold pas
  rw [List.countP_eq_zero]
  intro y hy
  obtain ⟨j, _, rfl⟩ := List.mem_map.1 hy
  intro h
  have := psB_iff.1 h
  simp only [ev0] at this
  omega
def cnt (n t : Nat) : Nat := n / 64 + if t < n % 64 then 1 else 0
theorem cnt_succ (n t : Nat) (h : t < 64) : cnt (n + 1) t = cnt n t + if n % 64 = t then 1 else 0 := by
  unfold cnt
  (repeat' split) <;> omega
theorem lm_rows {c : Int} (h0 : 0 ≤ c) (t : Nat) (ht : t < 64) : ∀ n : Nat, ans (lm c n) t = cnt n t ∧ opn (lm c n) t = 0 ∧ tok (lm c n) t = (cnt n t : Int) * c ∧ lng (lm c n) t = (if 0 < cnt n t then c else 0) ∧ ∀ l0, (∀ i : Nat, pas l0 (ev0 ((i % 64 : Nat) : Int) (i : Nat) ((i : Nat) + c)) = 0) → psd l0 (lm c n) t = 0
  | 0 => by simp [lm, ans, opn, tok, lng, psd, cnt]
  | n + 1 => by
    obtain ⟨i1, i2, i3, i4, i5⟩ := lm_rows h0 t ht n
    rw [lm_succ, ans_snoc, opn_snoc, tok_snoc, lng_snoc, cnt_succ n t ht, i1, i2, i3, i4]
    have hA : isA t (ev0 ((n % 64 : Nat) : Int) (n : Nat) ((n : Nat) + c)) = decide (n % 64 = t) := by
      unfold isA
      rw [decide_eq_decide]
      simp only [ev0]
      omega
    have hO : isO t (ev0 ((n % 64 : Nat) : Int) (n : Nat) ((n : Nat) + c)) = false := by
      unfold isO
      rw [decide_eq_false_iff_not]
      simp only [ev0]
      omega
    have hT : tkOf t (ev0 ((n % 64 : Nat) : Int) (n : Nat) ((n : Nat) + c)) = if n % 64 = t then c else 0 := by
      unfold tkOf
      rw [hA]
      simp only [decide_eq_true_eq, ev0]
      split <;> omega
    rw [hA, hO, hT]
    refine ⟨by simp, by simp, ?_, ?_, fun l0 hl => ?_⟩
    · split
      · rw [Int.natCast_add, Int.add_mul]; omega
      · simp
    · by_cases e : n % 64 = t
      · rw [if_pos e, if_pos e, if_pos (show 0 < cnt n t + 1 by omega)]
        split <;> omega
      · rw [if_neg e, if_neg e]
        simp only [Nat.add_zero]
        split <;> omega
    · rw [psd_snoc, i5 l0 hl]
      unfold psOf
      rw [hl n]
      simp
def wantR (c : Int) (n t : Nat) : List Int := [(t : Int), (cnt n t : Int), 0, (cnt n t : Int) * c, c, 0]
theorem cnt_pos {n t : Nat} (h : 998 ≤ n) (_ht : t < 64) : 0 < cnt n t := by unfold cnt; omega
theorem cnt_le {n t : Nat} (h : n ≤ 1000) : cnt n t ≤ 16 := by unfold cnt; split <;> omega
theorem lm_turns {c : Int} (h0 : 0 ≤ c) {n : Nat} (h : 998 ≤ n) : rowsT (lm c n) 64 = (List.range 64).map (wantR c n) := by
  unfold rowsT
  rw [List.filter_eq_self.2 (fun t ht => by
    have := List.mem_range.1 ht
    obtain ⟨i1, i2, _⟩ := lm_rows h0 t this n
    have := cnt_pos h this
    simp only [decide_eq_true_eq]
    omega)]
  refine List.map_congr_left fun t ht => ?_
  have ht := List.mem_range.1 ht
  obtain ⟨i1, i2, i3, i4, i5⟩ := lm_rows h0 t ht n
  have := cnt_pos h ht
  unfold rowT wantR
  rw [i1, i2, i3, i4, i5 _ (fun i => lm_pas h0 n i), if_pos this]
  rfl
theorem lm_wst {c : Int} (h0 : 0 ≤ c) : ∀ n : Nat, wst (lm c (n + 1)) = (0, c)
  | 0 => by
    rw [lm_succ, wst_snoc, if_pos (by simp only [ev0, lm, List.range_zero, List.map_nil, wst_nil]; omega)]
    simp [lm, ev0]
  | n + 1 => by
    rw [lm_succ, wst_snoc, lm_wst h0 n, if_neg (by simp only [ev0]; omega)]
theorem lm_err {c : Int} (h0 : 0 ≤ c) (h1 : c ≤ 1000) {n : Nat} (hn : n ≤ 1000) : errF (lm c n) = 0 := by
  unfold errF
  rw [if_neg (by rw [lm_len]; omega), if_pos (List.all_eq_true.2 (lm_ok h0 h1 (by omega)))]
theorem lm_long (c : Int) {n : Nat} (hn : 1000 < n) : errF (lm c n) = 5 := by
  unfold errF
  rw [if_pos (by rw [lm_len]; omega)]
theorem evInfo : (Try.prog.info? 33).map (fun i => (i.zero, i.size, i.bytes)) = some (some (ev0 0 0 0).val, 13, 160) := by kernel_rfl
theorem wf_u16 {x : Int} (h : (Lit.int .u16 x).wf = true) : 0 ≤ x ∧ x ≤ 65535 := by
  simp [Lit.wf, IntKind.min, IntKind.max, IntKind.signed, IntKind.bits] at h
  omega
set_option maxRecDepth 100000 in
set_option maxHeartbeats 4000000 in
theorem walk (n : Int) (_wn : (Lit.int .i64 n).wf = true) (c : Int) (wc' : (Lit.int .u16 c).wf = true) (w : World) :
    Calls Try.prog 3 #[.int .i64 n, .int .u16 c] w fun e w' => e = .returned (.bool true) ∧ Below w.heap.size w w' := by
  have hc := wf_u16 wc'
  clear wc' _wn
  by_cases hbad : n < 998 ∨ 1002 < n ∨ 1000 < c
  · go_enter Try.func3, Try.ntmps3
    go_wp2_with (go_at_call 6; refine (known_ok _).mono ?_; rintro e w' ⟨rfl, hkb⟩)
    all_goals first
      | (go_ret; exact ⟨rfl, hkb⟩)
      | (exfalso; omega)
  have q1 : 998 ≤ n := by omega
  have q2 : n ≤ 1002 := by omega
  have q3 : c ≤ 1000 := by omega
  have q4 : 0 ≤ c := by omega
  clear hbad hc
  obtain ⟨N, rfl⟩ : ∃ N : Nat, n = N := ⟨n.toNat, by omega⟩
  obtain ⟨i0, hi0, hz0, hz1, hz2⟩ := info_parts evInfo
  go_enter Try.func3, Try.ntmps3
  go_wp2_with fail
  go_loopw [5, 6] (fun v5 v6 wr => ∃ k : Nat, k ≤ N ∧ v6 = .int .i64 k ∧ wr.ownsRow w.heap.size 33 13 v5 k (evs (lm c k)) ∧ Below w.heap.size w wr) (fun _ v _ => N - (intOf v).toNat)
  case atStart => exact ⟨0, Nat.zero_le _, rfl, own_none _ _ _ _, Below.refl _ _⟩
  case round =>
    obtain ⟨k, hk, rfl, hown, hb⟩ := hrel
    by_cases hlt : k < N
    · have hev := fun W => event_ok ((k % 64 : Nat) : Int) (k : Nat) ((k : Nat) + c) W
      simp only [ev0, Ev.val, Ev.cells] at hev
      have i1 : (0 : Int) ≤ k := Int.natCast_nonneg _
      have i2 : (k : Int) < N := by omega
      have HR := Lib.hid (lm_succ c k)
      have e1 : ((k % 64 : Nat) : Int) = (k : Int) % 64 := by omega
      rw [e1] at hev
      have HE1 := Lib.hid e1
      clear e1
      go_wp2_with fail
      refine (hev _).mono ?_
      rintro e w1 ⟨rfl, hb1⟩
      have hb1' := hb.trans (hb1.mono hb.size)
      have hown1 := own_keep hown (Ch.of_below hb1 (fun _ => False)) (fun _ _ _ e => e)
      have hbr := Below.refl w1.heap.size w1
      have hbz := hb1'.size
      clear hb hown hb1 hev
      go_wp2_with ((at_builtin; refine wpList_append_rd _ rfl _ _ _ rfl w.heap.size 33 i0 _ 13 160 Try.underlying24 hi0 hz0 hz1 hz2 rfl (by omega) _ _ _ rfl (own_keep (own_keep hown1 (Ch.of_below hbr (fun _ => False)) (fun _ _ _ e => e)) ((Ch.refl (fun _ => False) _).alloc _) (fun _ _ _ e => e)) (some ⟨_, 0, none⟩) 1 1 (ev0 ((k : Int) % 64) (k : Nat) ((k : Nat) + c)).cells rfl (Rd.of_blk (G := fun _ => True) (Blk.new _ _ (ev0 ((k : Int) % 64) (k : Nat) ((k : Nat) + c)).cells) (List.prefix_refl _) trivial) (fun h => by cases h) rfl (Ev.all_one (ev0_one _ _ _)) (by unfold maxLen; omega) (by omega) (by have := Below.size hbr; simp; omega) ?_))
      intro v3 w3 hown3 hch3 hat3
      have hb3 : Below w.heap.size w w3 := (hb1'.alloc hb1'.size _).trans (hch3.below (fun j hj e => ownBlock_ge hown1 e) (by have := hb1'.size; simp; omega))
      have hown4 : w3.ownsRow w.heap.size 33 13 v3 (k + 1) (evs (lm c (k + 1))) := by rw [HR.out, evs_append, evs_one, HE1.out]; exact hown3
      clear hch3 hat3 hown1 hown3
      go_wp2_with fail
      go_roundw
      case rel => exact ⟨k + 1, by omega, by go_num, hown4, hb3⟩
      case measure => simp [intOf]; omega
    · obtain rfl : k = N := by omega
      obtain ⟨A, cl, rfl, hcl, hA⟩ := own_slice hown
      have hcap := own_cap hown
      have hR := (Rd.of_own hown).mono (G' := fun _ => True) (fun _ _ _ => trivial)
      have HR := Lib.hid (show ∀ W, Below wr.heap.size wr W → Rd (fun _ => True) W A (evs (lm c k)) from fun W hW => hR.keep (Ch.of_below hW (fun _ => False)) (fun _ _ _ e => e))
      clear hR hown
      by_cases hl : 1000 < k
      · have herr := lm_long c hl
        have hti := fun W hW => Times_ok A (lm c k) k cl W (HR.out W hW) (lm_len c k) (by omega) (lm_one c k)
        have htu := fun W hW => lturns_ok A (lm c k) k cl none [] 0 0 5 W (G2 := fun _ => True) (HR.out W hW) (lm_len c k) (by omega) (lm_one c k) (Rd.nil _ _ _) rfl (by omega) (by omega) (fun r hr => by cases hr)
        have hpa := fun W hW => lpasses_ok A (lm c k) k cl (-1) 0 5 W (HR.out W hW) (lm_len c k) (by omega) (lm_one c k)
        have hev := fun W hW => leven_ok A (lm c k) k cl 0 5 W (HR.out W hW) (lm_len c k) (by omega) (lm_one c k)
        have hwo := fun W hW => lworst_ok A (lm c k) k cl 0 5 W (HR.out W hW) (lm_len c k) (by omega) (lm_one c k)
        rw [show turnsB (lm c k) [] 5 = true by unfold turnsB turnsR; rw [herr]; simp] at htu
        rw [show ((passR (lm c k) (-1) == 0) && (passE (lm c k) (-1) == 5)) = true by unfold passR passE; rw [herr]; rfl] at hpa
        rw [show ((evenR (lm c k) == 0) && (errF (lm c k) == 5)) = true by unfold evenR; rw [herr]; rfl] at hev
        rw [show ((wstR (lm c k) == 0) && (errF (lm c k) == 5)) = true by unfold wstR; rw [herr]; rfl] at hwo
        have HERR := Lib.hid herr
        clear herr
        go_wp2_with fail
        refine (hti _ (Below.refl _ _)).mono ?_
        rintro e w1 ⟨hb1, hcase⟩
        rcases hcase with ⟨_, rfl⟩ | ⟨h0, _⟩
        · rw [HERR.out]
          go_wp2_with fail
          refine (htu _ hb1).mono ?_
          rintro e w2 ⟨rfl, hb2⟩
          have hb2 := hb1.trans (hb2.mono hb1.size)
          clear hti htu hb1
          go_wp2_with fail
          refine (hpa _ hb2).mono ?_
          rintro e w3 ⟨rfl, hb3⟩
          have hb3 := hb2.trans (hb3.mono hb2.size)
          clear hpa hb2
          go_wp2_with fail
          refine (hev _ hb3).mono ?_
          rintro e w4 ⟨rfl, hb4⟩
          have hb4 := hb3.trans (hb4.mono hb3.size)
          clear hev hb3
          go_wp2_with fail
          refine (hwo _ hb4).mono ?_
          rintro e w5 ⟨rfl, hb5⟩
          have hb5 := hb4.trans (hb5.mono hb4.size)
          clear hwo hb4
          go_wp2_with fail
          refine (known_ok _).mono ?_
          rintro e w6 ⟨rfl, hb6⟩
          have hb6 := hb5.trans (hb6.mono hb5.size)
          clear hb5
          go_wp2_with fail
          go_ret
          exact ⟨rfl, hb.trans (hb6.mono hb.size)⟩
        · have := HERR.out
          omega
      · have herr := lm_err (c := c) q4 q3 (n := k) (by omega)
        have htu := fun W hW => Turns_ok A (lm c k) k cl W (HR.out W hW) (lm_len c k) (by omega) (lm_one c k)
        have hwo := fun W hW => lworst_ok A (lm c k) k cl 0 0 W (HR.out W hW) (lm_len c k) (by omega) (lm_one c k)
        rw [show turnsR (lm c k) = (List.range 64).map (wantR c k) by unfold turnsR; rw [if_neg (by omega)]; exact lm_turns q4 (by omega), herr] at htu
        rw [show ((wstR (lm c k) == 0) && (errF (lm c k) == 0)) = true by
          unfold wstR
          rw [herr, if_neg (by omega)]
          obtain ⟨j, rfl⟩ : ∃ j, k = j + 1 := ⟨k - 1, by omega⟩
          rw [lm_wst q4 j]; rfl] at hwo
        clear herr HR
        generalize hrows : (List.range 64).map (wantR c k) = rows at htu
        have hrl : rows.length = 64 := by rw [← hrows]; simp
        have hsix : ∀ r ∈ rows, six r := by
          intro r hr
          rw [← hrows] at hr
          obtain ⟨t, _, rfl⟩ := List.mem_map.1 hr
          exact ⟨_, _, _, _, _, _, rfl⟩
        have HROW := Lib.hid (show ∀ t, t < 64 → rows[t]? = some (wantR c k t) from fun t ht => by rw [← hrows, List.getElem?_map, List.getElem?_range ht]; rfl)
        clear hrows
        go_wp2_with fail
        refine (htu _ (Below.refl _ _)).mono ?_
        rintro e w1 ⟨A3, c3, rfl, hr3, hc3, hc4, hA3, hb1⟩
        have HRL := Lib.hid hrl
        rw [hrl] at hc3 ⊢
        clear hrl htu
        go_wp2_with fail
        go_loopw [11] (fun v wx => ∃ t : Nat, t ≤ 64 ∧ v = .int .i64 t ∧ Below w1.heap.size w1 wx) (fun v _ => 64 - (intOf v).toNat)
        case atStart => exact ⟨0, by omega, rfl, Below.refl _ _⟩
        case round =>
          obtain ⟨t, ht, rfl, hbx⟩ := hrel
          by_cases hlt2 : t < 64
          · have hrow := HROW.out t hlt2
            unfold wantR at hrow
            obtain ⟨bA, oA, rfl, _, _, f0, f1, f2, f3, f4, f5⟩ := rd_six (hr3.keep (Ch.of_below hbx (fun _ => False)) (fun _ _ _ e => e)) hsix hrow
            have i1 : (0 : Int) ≤ t := Int.natCast_nonneg _
            have i2 : (t : Int) < 64 := by omega
            have HC := Lib.hid (show cnt k t = k / 64 + if t < k % 64 then 1 else 0 from rfl)
            have hcl := cnt_le (n := k) (t := t) (by omega)
            generalize cnt k t = C at *
            have hmul : 0 ≤ (C : Int) * c ∧ (C : Int) * c ≤ 16 * 1000 := ⟨Int.mul_nonneg (by omega) q4, Int.mul_le_mul (by omega) q3 q4 (by omega)⟩
            have hne := six_neq (t : Int) C 0 ((C : Int) * c) c 0 (t : Int) C 0 ((C : Int) * c) c 0
            rw [show (!decide ([(t : Int), (C : Int), 0, (C : Int) * c, c, 0] = [(t : Int), (C : Int), 0, (C : Int) * c, c, 0])) = false by simp] at hne
            clear hrow
            by_cases hr : t < k % 64
            · have hC := HC.out
              rw [if_pos hr] at hC
              have d1 : decide ((t : Int) < (k : Int) % 64) = true := decide_eq_true (by omega)
              have e2 : (k : Int) / 64 + 1 = (C : Int) := by omega
              clear hC hr
              go_wp2_with fail
              go_roundw
              case rel => exact ⟨t + 1, by omega, by go_num, by (repeat' (first | (with_reducible exact Below.refl _ _) | (with_reducible assumption) | (with_reducible refine Below.alloc ?_ ?_ _) | (with_reducible refine Below.drew ?_) | (with_reducible refine below_drewN ?_ _) | (with_reducible refine Below.setCell ?_ ?_ _) | (with_reducible refine Below.trans ?_ (Below.mono (by assumption) ?_)) | (first | go_size | (with_reducible exact Below.size (by assumption)) | (with_reducible exact Nat.le_trans (Below.size (by assumption)) (Below.size (by assumption))) | (refine Nat.le_trans (Below.size (by assumption)) ?_; go_size))))⟩
              case measure => simp [intOf]; omega
            · have hC := HC.out
              rw [if_neg hr] at hC
              have d1 : decide ((t : Int) < (k : Int) % 64) = false := decide_eq_false (by omega)
              have e2 : (k : Int) / 64 = (C : Int) := by omega
              clear hC hr
              go_wp2_with fail
              go_roundw
              case rel => exact ⟨t + 1, by omega, by go_num, by (repeat' (first | (with_reducible exact Below.refl _ _) | (with_reducible assumption) | (with_reducible refine Below.alloc ?_ ?_ _) | (with_reducible refine Below.drew ?_) | (with_reducible refine below_drewN ?_ _) | (with_reducible refine Below.setCell ?_ ?_ _) | (with_reducible refine Below.trans ?_ (Below.mono (by assumption) ?_)) | (first | go_size | (with_reducible exact Below.size (by assumption)) | (with_reducible exact Nat.le_trans (Below.size (by assumption)) (Below.size (by assumption))) | (refine Nat.le_trans (Below.size (by assumption)) ?_; go_size))))⟩
              case measure => simp [intOf]; omega
          · obtain rfl : t = 64 := by omega
            have hbx := hb1.trans (hbx.mono hb1.size)
            clear hb1 hr3
            go_wp2_with fail
            refine (hwo _ hbx).mono ?_
            rintro e w5 ⟨rfl, hb5⟩
            have hb5 := hbx.trans (hb5.mono hbx.size)
            clear hwo hbx
            go_wp2_with fail
            refine (known_ok _).mono ?_
            rintro e w6 ⟨rfl, hb6⟩
            have hb6 := hb5.trans (hb6.mono hb5.size)
            clear hb5
            go_wp2_with fail
            go_ret
            exact ⟨rfl, hb.trans (hb6.mono hb.size)⟩
end FairMany
end Go.Proofs.Ythikpceckiapjaa
