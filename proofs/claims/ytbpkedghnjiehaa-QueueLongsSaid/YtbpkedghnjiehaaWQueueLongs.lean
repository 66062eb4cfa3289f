/-
  The walk of QueueLongs: it returns true at every input.
-/
import Derived.Test.YtbpkedghnjiehaaK03b
namespace Go.Proofs.Ytbpkedghnjiehaa
open Go.RowKit
namespace QueueLongs
theorem wf_i64 {x : Int} (h : (Lit.int .i64 x).wf = true) : -9223372036854775808 ≤ x ∧ x ≤ 9223372036854775807 := by
  simp [Lit.wf, IntKind.min, IntKind.max, IntKind.signed, IntKind.bits] at h
  omega
theorem zeros_get (m j : Nat) (h : j < m) : (zeros m).getD j 0 = 0 := by simp [zeros, List.getD, h]
theorem zeros_all (m n : Nat) (hn : 1 ≤ n) : (zeros m).all (inB n) = true := by
  rw [List.all_eq_true]
  intro x hx
  rw [List.eq_of_mem_replicate hx]
  simp [inB]
  omega
theorem window_zeros (m n : Nat) (hn : 1 ≤ n) (hm : 1 ≤ m) : windowI (zeros m) n = if n = 1 then 1 else m + 1 := by
  have h1 := window_pos (zeros m) n
  have h2 := window_le (zeros m) n
  rw [zeros_length] at h2
  split
  · rename_i e
    subst e
    have := (window_iff (zeros m) 1 (all_in (zeros_all m 1 (Nat.le_refl _))) 1 (Nat.le_refl _)).2 (fun a ha t ht => ⟨a, Nat.le_refl _, by omega, by rw [zeros_length] at ha; rw [zeros_get m a (by omega)]; omega⟩)
    omega
  · rename_i e
    apply Classical.byContradiction
    intro hc
    obtain ⟨j, j1, j2, j3⟩ := (window_iff (zeros m) n (all_in (zeros_all m n hn)) m hm).1 (by omega) 0 (by rw [zeros_length]; omega) 1 (by omega)
    rw [zeros_get m j (by omega)] at j3
    omega
theorem roundL_get (n : Int) (m j : Nat) (h : j < m) : (roundL n m).getD j 0 = (j : Int) % n := by simp [roundL, List.getD, h]
theorem round_all (m n : Nat) (hn : 1 ≤ n) : (roundL n m).all (inB n) = true := by
  rw [List.all_eq_true]
  intro x hx
  unfold roundL at hx
  obtain ⟨i, _, rfl⟩ := List.mem_map.1 hx
  have h1 := Int.emod_nonneg (i : Int) (b := (n : Int)) (by omega)
  have h2 := Int.emod_lt_of_pos (i : Int) (b := (n : Int)) (by omega)
  simp [inB]
  omega
theorem mod_in (n a t : Nat) (hn : 1 ≤ n) (ht : t < n) : ∃ j, a ≤ j ∧ j < a + n ∧ j % n = t := by
  have h1 := Nat.mod_lt a (show 0 < n by omega)
  have h2 := Nat.div_add_mod a n
  by_cases h : a % n ≤ t
  · refine ⟨a + (t - a % n), by omega, by omega, ?_⟩
    rw [show a + (t - a % n) = t + n * (a / n) by omega, Nat.add_mul_mod_self_left, Nat.mod_eq_of_lt ht]
  · refine ⟨a + (n - a % n) + t, by omega, by omega, ?_⟩
    rw [show a + (n - a % n) + t = t + n * (a / n + 1) by rw [Nat.mul_add]; omega, Nat.add_mul_mod_self_left, Nat.mod_eq_of_lt ht]
theorem window_round (m n : Nat) (hn : 1 ≤ n) (hm : n ≤ m) : windowI (roundL n m) n = n := by
  have h1 := window_pos (roundL n m) n
  have ha := all_in (round_all m n hn)
  have h2 := (window_iff (roundL n m) n ha n hn).2 (fun a ha t ht => by
    rw [roundL_length] at ha
    obtain ⟨j, j1, j2, j3⟩ := mod_in n a t hn ht
    exact ⟨j, j1, j2, by rw [roundL_get _ _ _ (by omega)]; omega⟩)
  by_cases e : n = 1
  · omega
  · apply Classical.byContradiction
    intro hc
    obtain ⟨j, j1, j2, j3⟩ := (window_iff (roundL n m) n ha (n - 1) (by omega)).1 (by omega) 0 (by rw [roundL_length]; omega) (n - 1) (by omega)
    rw [roundL_get _ _ _ (by omega), Int.emod_eq_of_lt (by omega) (by omega)] at j3
    omega
theorem make_u8 (n : Nat) (hn : n ≤ 1000000) (w : World) :
    (Instr.makeSlice 22 (.int .i64 (n : Int)) (.int .i64 (n : Int))).run Try.prog w = .ok (.slice (some ⟨w.heap.size, 0, none⟩) n n) (w.alloc (.cells (u8s (zeros n)).toArray 5)) := by
  have hinfo : (Try.prog.info? 5).map (fun i => (i.zero, i.size, i.bytes)) = some (some (.int .u8 0), 1, 1) := by kernel_rfl
  obtain ⟨i0, hi0, hz0, hz1, hz2⟩ := info_parts hinfo
  have hr := run_make (P := Try.prog) w 22 5 i0 _ Try.underlying22 hi0 hz0 .i64 .i64 n n (by omega) (by omega) (by rw [hz2]; omega) (by omega)
  rw [hz1] at hr
  simp only [Int.toNat_natCast, Nat.mul_one] at hr
  rw [show (Value.int .u8 0).cells = #[.int .u8 0] from rfl, madeCells_one] at hr
  simpa [u8s, zeros] using hr
theorem fromL_zeros (n : Int) (m : Nat) : fromL n (zeros m) = zeros m := by simp [fromL, zeros]
theorem zeros_wf (m : Nat) : ∀ x ∈ zeros m, 0 ≤ x ∧ x ≤ 255 := fun x hx => by rw [List.eq_of_mem_replicate hx]; omega
theorem wrong_zeros (m : Nat) (n : Int) (ht : thrB n = true) (hm : 100000 < m) : wrongE (zeros m) n = 5 := by
  unfold wrongE
  rw [if_neg (by rw [ht]; simp), if_pos (by rw [zeros_length]; exact hm)]
set_option maxRecDepth 100000 in
set_option maxHeartbeats 4000000 in
theorem walk (m : Int) (_wm : (Lit.int .i64 m).wf = true) (n : Int) (wn : (Lit.int .i64 n).wf = true) (w : World) :
    Calls Try.prog 5 #[.int .i64 m, .int .i64 n] w fun e w' => e = .returned (.bool true) ∧ Below w.heap.size w w' := by
  by_cases h1 : m < 99998
  · have d1 : decide (m < 99998) = true := decide_eq_true h1
    go_enter Try.func5, Try.ntmps5
    go_wp2_with (first | (go_at_call 10; refine (known_ok _).mono ?_; rintro e w' ⟨rfl, hkb⟩))
    go_ret
    exact ⟨rfl, by (repeat' (first | (with_reducible exact Below.refl _ _) | (with_reducible assumption) | (with_reducible refine Below.alloc ?_ ?_ _) | (with_reducible refine Below.drew ?_) | (with_reducible refine below_drewN ?_ _) | (with_reducible refine Below.setCell ?_ ?_ _) | (with_reducible refine Below.trans ?_ (Below.mono (by assumption) ?_)) | (first | go_size | (with_reducible exact Below.size (by assumption)) | (with_reducible exact Nat.le_trans (Below.size (by assumption)) (Below.size (by assumption))) | (refine Nat.le_trans (Below.size (by assumption)) ?_; go_size))))⟩
  have d1 : decide (m < 99998) = false := decide_eq_false h1
  by_cases h2 : 100002 < m
  · have d2 : decide (100002 < m) = true := decide_eq_true h2
    go_enter Try.func5, Try.ntmps5
    go_wp2_with (first | (go_at_call 10; refine (known_ok _).mono ?_; rintro e w' ⟨rfl, hkb⟩))
    go_ret
    exact ⟨rfl, by (repeat' (first | (with_reducible exact Below.refl _ _) | (with_reducible assumption) | (with_reducible refine Below.alloc ?_ ?_ _) | (with_reducible refine Below.drew ?_) | (with_reducible refine below_drewN ?_ _) | (with_reducible refine Below.setCell ?_ ?_ _) | (with_reducible refine Below.trans ?_ (Below.mono (by assumption) ?_)) | (first | go_size | (with_reducible exact Below.size (by assumption)) | (with_reducible exact Nat.le_trans (Below.size (by assumption)) (Below.size (by assumption))) | (refine Nat.le_trans (Below.size (by assumption)) ?_; go_size))))⟩
  have d2 : decide (100002 < m) = false := decide_eq_false h2
  cases ht : thrB n with
  | false =>
    go_enter Try.func5, Try.ntmps5
    go_wp2_with (first | (go_at_call 11; refine (rthr_no _ _ ht).mono ?_; rintro e w' ⟨rfl, rfl⟩) | (go_at_call 10; refine (known_ok _).mono ?_; rintro e w' ⟨rfl, hkb⟩))
    go_ret
    exact ⟨rfl, by (repeat' (first | (with_reducible exact Below.refl _ _) | (with_reducible assumption) | (with_reducible refine Below.alloc ?_ ?_ _) | (with_reducible refine Below.drew ?_) | (with_reducible refine below_drewN ?_ _) | (with_reducible refine Below.setCell ?_ ?_ _) | (with_reducible refine Below.trans ?_ (Below.mono (by assumption) ?_)) | (first | go_size | (with_reducible exact Below.size (by assumption)) | (with_reducible exact Nat.le_trans (Below.size (by assumption)) (Below.size (by assumption))) | (refine Nat.le_trans (Below.size (by assumption)) ?_; go_size))))⟩
  | true =>
    have hp := thr_pos ht
    obtain ⟨M, rfl⟩ : ∃ M : Nat, m = M := ⟨m.toNat, by omega⟩
    obtain ⟨N, rfl⟩ : ∃ N : Nat, n = N := ⟨n.toNat, by omega⟩
    have hM1 : 99998 ≤ M := by omega
    have hM2 : M ≤ 100002 := by omega
    have hN1 : 1 ≤ N := by omega
    have hN2 : N ≤ 64 := by omega
    have hmk := fun W => make_int M (by omega) W
    have hm8 := fun W => make_u8 M (by omega) W
    clear wn h1 h2
    by_cases hb : 100000 < M
    · have d3 : decide (100000 < (M : Int)) = true := decide_eq_true (by omega)
      have hE := wrong_zeros M N ht hb
      have hvf : validB (zeros M) N = false := by unfold validB; rw [decide_eq_false (by rw [zeros_length]; omega)]; simp
      have hne : wrongE (zeros M) N ≠ 0 := by omega
      have hv := fun A c W hR => valid_any A (zeros M) M c N W hR (zeros_length M) (by omega)
      rw [hvf] at hv
      have hlc := fun A c W hR => lcounts_of N 5 [] none A 0 0 M c W (by have := counts_bad A (zeros M) M c N W hR (zeros_length M) (by omega) hne; rwa [hE] at this) (Rd.nil _ _ _) rfl (by omega) (by omega)
      have hlw := fun A c W hR => lwindow_of N 5 0 A M c W (by have := window_bad A (zeros M) M c N W hR (zeros_length M) (by omega) hne; rwa [hE] at this)
      have hlf := fun A c W hR => lfair_of N 5 5 false A M c W (by have := fair_bad A (zeros M) M c N 5 W hR (zeros_length M) (by omega) hne; rw [hE] at this; rwa [if_neg (by rintro ⟨_, h⟩; omega)] at this)
      have hlfr := fun A c W => lfrom_of N 5 [] none A 0 0 M c W (by have := from_bad A M c N W (.inr hb); rwa [if_neg (by rw [ht]; simp)] at this) (Rd.nil _ _ _) rfl (by omega) (by omega)
      have HV := Lib.hid hv
      have HC := Lib.hid hlc
      have HW := Lib.hid hlw
      have HF := Lib.hid hlf
      have HFR := Lib.hid hlfr
      clear hE hvf hne hv hlc hlw hlf hlfr
      go_enter Try.func5, Try.ntmps5
      go_wp2_with (go_at_call 11; refine (rthr_yes _ _ ht).mono ?_; rintro e w' ⟨rfl, rfl⟩)
      refine (HV.out _ _ _ (rd_new w (zeros M))).mono ?_
      rintro e w1 ⟨rfl, hq⟩
      have hr1 : Rd (fun _ => True) w1 (some ⟨w.heap.size, 0, none⟩) (ints (zeros M)) := by rw [← hq]; exact (rd_new w (zeros M)).keep ((Ch.refl (fun _ => False) _).alloc _) (fun _ _ _ e => e)
      have hB1 : Below w.heap.size w w1 := by rw [← hq]; (repeat' (first | (with_reducible exact Below.refl _ _) | (with_reducible assumption) | (with_reducible refine Below.alloc ?_ ?_ _) | (with_reducible refine Below.drew ?_) | (with_reducible refine below_drewN ?_ _) | (with_reducible refine Below.setCell ?_ ?_ _) | (with_reducible refine Below.trans ?_ (Below.mono (by assumption) ?_)) | (first | go_size | (with_reducible exact Below.size (by assumption)) | (with_reducible exact Nat.le_trans (Below.size (by assumption)) (Below.size (by assumption))) | (refine Nat.le_trans (Below.size (by assumption)) ?_; go_size))))
      clear hq
      go_wp2_with fail
      refine (HC.out _ _ _ hr1).mono ?_
      rintro e w2 ⟨rfl, hb2⟩
      have hr2 := hr1.keep (Ch.of_below hb2 (fun _ => False)) (fun _ _ _ e => e)
      have hB2 := hB1.trans (hb2.mono hB1.size)
      clear hb2 hr1 hB1
      go_wp2_with fail
      refine (HW.out _ _ _ hr2).mono ?_
      rintro e w3 ⟨rfl, hb3⟩
      have hr3 := hr2.keep (Ch.of_below hb3 (fun _ => False)) (fun _ _ _ e => e)
      have hB3 := hB2.trans (hb3.mono hB2.size)
      clear hb3 hr2 hB2
      go_wp2_with fail
      refine (HF.out _ _ _ hr3).mono ?_
      rintro e w4 ⟨rfl, hb4⟩
      have hB4 := hB3.trans (hb4.mono hB3.size)
      have hz4 := hB4.size
      clear hb4 hr3 hB3
      go_wp2_with fail
      refine (HFR.out _ _ _).mono ?_
      rintro e w5 ⟨rfl, hb5⟩
      have hB5 : Below w.heap.size w w5 := Below.trans (show Below w.heap.size w (w4.alloc _) by (repeat' (first | (with_reducible exact Below.refl _ _) | (with_reducible assumption) | (with_reducible refine Below.alloc ?_ ?_ _) | (with_reducible refine Below.drew ?_) | (with_reducible refine below_drewN ?_ _) | (with_reducible refine Below.setCell ?_ ?_ _) | (with_reducible refine Below.trans ?_ (Below.mono (by assumption) ?_)) | (first | go_size | (with_reducible exact Below.size (by assumption)) | (with_reducible exact Nat.le_trans (Below.size (by assumption)) (Below.size (by assumption))) | (refine Nat.le_trans (Below.size (by assumption)) ?_; go_size))))) (hb5.mono (by simp; omega))
      clear hb5 hB4 hz4
      go_wp2_with (first | (go_at_call 10; refine (known_ok _).mono ?_; rintro e w' ⟨rfl, hkb⟩))
      go_ret
      exact ⟨rfl, by (repeat' (first | (with_reducible exact Below.refl _ _) | (with_reducible assumption) | (with_reducible refine Below.alloc ?_ ?_ _) | (with_reducible refine Below.drew ?_) | (with_reducible refine below_drewN ?_ _) | (with_reducible refine Below.setCell ?_ ?_ _) | (with_reducible refine Below.trans ?_ (Below.mono (by assumption) ?_)) | (first | go_size | (with_reducible exact Below.size (by assumption)) | (with_reducible exact Nat.le_trans (Below.size (by assumption)) (Below.size (by assumption))) | (refine Nat.le_trans (Below.size (by assumption)) ?_; go_size))))⟩
    · have d3 : decide (100000 < (M : Int)) = false := decide_eq_false (by omega)
      have hza := zeros_all M N hN1
      have hvt : validB (zeros M) N = true := by unfold validB; rw [ht, hza, decide_eq_true (by rw [zeros_length]; omega)]; rfl
      have hv := fun A c W hR => valid_any A (zeros M) M c N W hR (zeros_length M) (by omega)
      rw [hvt] at hv
      have hwz := window_zeros M N hN1 (by omega)
      have hlw := fun A c W hR => lwindow_of N 0 (windowI (zeros M) N : Nat) A M c W (window_ok A (zeros M) M c N W hR (zeros_length M) ht (by omega) hza)
      have hwr := window_round M N hN1 (by omega)
      have hlr := fun A c W hR => lwindow_of N 0 (windowI (roundL N M) N : Nat) A M c W (window_ok A (roundL N M) M c N W hR (roundL_length N M) ht (by omega) (round_all M N hN1))
      rw [hwr] at hlr
      have hrd := fun W => round_ok N M W ht (by omega)
      have hlfr := fun A c A' c' W hR hR2 hc => lfrom_of N 0 (zeros M) A' A M c' M c W (by have := from_ok A (zeros M) M c N W hR (zeros_length M) (zeros_wf M) ht (by omega); rwa [fromL_zeros] at this) hR2 (zeros_length M) (by omega) hc
      have HRL := Lib.hid (roundL_length N M)
      have HV := Lib.hid hv
      have HR := Lib.hid hlr
      have HRD := Lib.hid hrd
      have HFR := Lib.hid hlfr
      clear hza hvt hv hlr hrd hlfr hwr
      by_cases hN : N = 1
      · rw [hwz, if_pos hN] at hlw
        have HW := Lib.hid hlw
        have d4 : decide (1 < (N : Int)) = false := decide_eq_false (by omega)
        have d5 : decide (1 < N) = false := decide_eq_false (by omega)
        clear hwz hlw hN hb
        go_enter Try.func5, Try.ntmps5
        go_wp2_with (first | (go_at_call 11; refine (rthr_yes _ _ ht).mono ?_; rintro e w' ⟨rfl, rfl⟩))
        refine (HV.out _ _ _ (rd_new w (zeros M))).mono ?_
        rintro e w1 ⟨rfl, hq⟩
        have hr1 : Rd (fun _ => True) w1 (some ⟨w.heap.size, 0, none⟩) (ints (zeros M)) := by rw [← hq]; exact (rd_new w (zeros M)).keep ((Ch.refl (fun _ => False) _).alloc _) (fun _ _ _ e => e)
        have hB1 : Below w.heap.size w w1 := by rw [← hq]; (repeat' (first | (with_reducible exact Below.refl _ _) | (with_reducible assumption) | (with_reducible refine Below.alloc ?_ ?_ _) | (with_reducible refine Below.drew ?_) | (with_reducible refine below_drewN ?_ _) | (with_reducible refine Below.setCell ?_ ?_ _) | (with_reducible refine Below.trans ?_ (Below.mono (by assumption) ?_)) | (first | go_size | (with_reducible exact Below.size (by assumption)) | (with_reducible exact Nat.le_trans (Below.size (by assumption)) (Below.size (by assumption))) | (refine Nat.le_trans (Below.size (by assumption)) ?_; go_size))))
        clear hq
        go_wp2_with fail
        refine (HW.out _ _ _ hr1).mono ?_
        rintro e w2 ⟨rfl, hb2⟩
        have hr2 := hr1.keep (Ch.of_below hb2 (fun _ => False)) (fun _ _ _ e => e)
        have hB2 := hB1.trans (hb2.mono hB1.size)
        clear hb2 hr1 hB1
        go_wp2_with fail
        refine (HRD.out w2).mono ?_
        rintro e w3 ⟨A3, c3, rfl, k1, k2, k3, k4, hb3⟩
        have hr3 := hr2.keep (Ch.of_below hb3 (fun _ => False)) (fun _ _ _ e => e)
        have hB3 := hB2.trans (hb3.mono hB2.size)
        rw [HRL.out] at k2 ⊢
        have e1 : ((M : Int) != M) = false := by simp
        clear hb3 hr2 hB2 k4
        go_wp2_with fail
        refine (HR.out _ _ _ (k1.mono (fun _ _ _ => trivial))).mono ?_
        rintro e w4 ⟨rfl, hb4⟩
        have hr4 := hr3.keep (Ch.of_below hb4 (fun _ => False)) (fun _ _ _ e => e)
        have hB4 := hB3.trans (hb4.mono hB3.size)
        have hz4 := hB4.size
        clear hb4 hr3 hB3 k1
        go_wp2_with fail
        refine (HFR.out _ _ _ _ _ (Rd.of_blk (Blk.new _ _ _) (List.prefix_refl _) trivial) (hr4.keep ((Ch.refl (fun _ => False) _).alloc _) (fun _ _ _ e => e)) (Nat.le_refl _)).mono ?_
        rintro e w5 ⟨rfl, hb5⟩
        have hB5 : Below w.heap.size w w5 := Below.trans (show Below w.heap.size w (w4.alloc _) by (repeat' (first | (with_reducible exact Below.refl _ _) | (with_reducible assumption) | (with_reducible refine Below.alloc ?_ ?_ _) | (with_reducible refine Below.drew ?_) | (with_reducible refine below_drewN ?_ _) | (with_reducible refine Below.setCell ?_ ?_ _) | (with_reducible refine Below.trans ?_ (Below.mono (by assumption) ?_)) | (first | go_size | (with_reducible exact Below.size (by assumption)) | (with_reducible exact Nat.le_trans (Below.size (by assumption)) (Below.size (by assumption))) | (refine Nat.le_trans (Below.size (by assumption)) ?_; go_size))))) (hb5.mono (by simp; omega))
        clear hb5 hB4 hz4 hr4
        go_wp2_with (first | (go_at_call 10; refine (known_ok _).mono ?_; rintro e w' ⟨rfl, hkb⟩))
        go_ret
        exact ⟨rfl, by (repeat' (first | (with_reducible exact Below.refl _ _) | (with_reducible assumption) | (with_reducible refine Below.alloc ?_ ?_ _) | (with_reducible refine Below.drew ?_) | (with_reducible refine below_drewN ?_ _) | (with_reducible refine Below.setCell ?_ ?_ _) | (with_reducible refine Below.trans ?_ (Below.mono (by assumption) ?_)) | (first | go_size | (with_reducible exact Below.size (by assumption)) | (with_reducible exact Nat.le_trans (Below.size (by assumption)) (Below.size (by assumption))) | (refine Nat.le_trans (Below.size (by assumption)) ?_; go_size))))⟩
      · rw [hwz, if_neg hN, show ((M + 1 : Nat) : Int) = (M : Int) + 1 by omega] at hlw
        have HW := Lib.hid hlw
        have d4 : decide (1 < (N : Int)) = true := decide_eq_true (by omega)
        have d5 : decide (1 < N) = true := decide_eq_true (by omega)
        clear hwz hlw hN hb
        go_enter Try.func5, Try.ntmps5
        go_wp2_with (first | (go_at_call 11; refine (rthr_yes _ _ ht).mono ?_; rintro e w' ⟨rfl, rfl⟩))
        refine (HV.out _ _ _ (rd_new w (zeros M))).mono ?_
        rintro e w1 ⟨rfl, hq⟩
        have hr1 : Rd (fun _ => True) w1 (some ⟨w.heap.size, 0, none⟩) (ints (zeros M)) := by rw [← hq]; exact (rd_new w (zeros M)).keep ((Ch.refl (fun _ => False) _).alloc _) (fun _ _ _ e => e)
        have hB1 : Below w.heap.size w w1 := by rw [← hq]; (repeat' (first | (with_reducible exact Below.refl _ _) | (with_reducible assumption) | (with_reducible refine Below.alloc ?_ ?_ _) | (with_reducible refine Below.drew ?_) | (with_reducible refine below_drewN ?_ _) | (with_reducible refine Below.setCell ?_ ?_ _) | (with_reducible refine Below.trans ?_ (Below.mono (by assumption) ?_)) | (first | go_size | (with_reducible exact Below.size (by assumption)) | (with_reducible exact Nat.le_trans (Below.size (by assumption)) (Below.size (by assumption))) | (refine Nat.le_trans (Below.size (by assumption)) ?_; go_size))))
        clear hq
        go_wp2_with fail
        refine (HW.out _ _ _ hr1).mono ?_
        rintro e w2 ⟨rfl, hb2⟩
        have hr2 := hr1.keep (Ch.of_below hb2 (fun _ => False)) (fun _ _ _ e => e)
        have hB2 := hB1.trans (hb2.mono hB1.size)
        clear hb2 hr1 hB1
        go_wp2_with fail
        refine (HRD.out w2).mono ?_
        rintro e w3 ⟨A3, c3, rfl, k1, k2, k3, k4, hb3⟩
        have hr3 := hr2.keep (Ch.of_below hb3 (fun _ => False)) (fun _ _ _ e => e)
        have hB3 := hB2.trans (hb3.mono hB2.size)
        rw [HRL.out] at k2 ⊢
        have e1 : ((M : Int) != M) = false := by simp
        clear hb3 hr2 hB2 k4
        go_wp2_with fail
        refine (HR.out _ _ _ (k1.mono (fun _ _ _ => trivial))).mono ?_
        rintro e w4 ⟨rfl, hb4⟩
        have hr4 := hr3.keep (Ch.of_below hb4 (fun _ => False)) (fun _ _ _ e => e)
        have hB4 := hB3.trans (hb4.mono hB3.size)
        have hz4 := hB4.size
        clear hb4 hr3 hB3 k1
        go_wp2_with fail
        refine (HFR.out _ _ _ _ _ (Rd.of_blk (Blk.new _ _ _) (List.prefix_refl _) trivial) (hr4.keep ((Ch.refl (fun _ => False) _).alloc _) (fun _ _ _ e => e)) (Nat.le_refl _)).mono ?_
        rintro e w5 ⟨rfl, hb5⟩
        have hB5 : Below w.heap.size w w5 := Below.trans (show Below w.heap.size w (w4.alloc _) by (repeat' (first | (with_reducible exact Below.refl _ _) | (with_reducible assumption) | (with_reducible refine Below.alloc ?_ ?_ _) | (with_reducible refine Below.drew ?_) | (with_reducible refine below_drewN ?_ _) | (with_reducible refine Below.setCell ?_ ?_ _) | (with_reducible refine Below.trans ?_ (Below.mono (by assumption) ?_)) | (first | go_size | (with_reducible exact Below.size (by assumption)) | (with_reducible exact Nat.le_trans (Below.size (by assumption)) (Below.size (by assumption))) | (refine Nat.le_trans (Below.size (by assumption)) ?_; go_size))))) (hb5.mono (by simp; omega))
        clear hb5 hB4 hz4 hr4
        go_wp2_with (first | (go_at_call 10; refine (known_ok _).mono ?_; rintro e w' ⟨rfl, hkb⟩))
        go_ret
        exact ⟨rfl, by (repeat' (first | (with_reducible exact Below.refl _ _) | (with_reducible assumption) | (with_reducible refine Below.alloc ?_ ?_ _) | (with_reducible refine Below.drew ?_) | (with_reducible refine below_drewN ?_ _) | (with_reducible refine Below.setCell ?_ ?_ _) | (with_reducible refine Below.trans ?_ (Below.mono (by assumption) ?_)) | (first | go_size | (with_reducible exact Below.size (by assumption)) | (with_reducible exact Nat.le_trans (Below.size (by assumption)) (Below.size (by assumption))) | (refine Nat.le_trans (Below.size (by assumption)) ?_; go_size))))⟩
end QueueLongs
end Go.Proofs.Ytbpkedghnjiehaa
