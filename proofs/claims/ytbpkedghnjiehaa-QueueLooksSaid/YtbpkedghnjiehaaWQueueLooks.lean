/-
  The walk of QueueLooks: it returns true at every input.
-/
import Derived.Test.YtbpkedghnjiehaaK03b
namespace Go.Proofs.Ytbpkedghnjiehaa
open Go.RowKit
namespace QueueLooks
theorem wf_i64 {x : Int} (h : (Lit.int .i64 x).wf = true) : -9223372036854775808 ≤ x ∧ x ≤ 9223372036854775807 := by
  simp [Lit.wf, IntKind.min, IntKind.max, IntKind.signed, IntKind.bits] at h
  omega
theorem wrong_two (xs : List Int) (n : Int) (h : xs.length ≤ 100000) : wrongE xs n = 0 ∨ wrongE xs n = 2 := by
  unfold wrongE
  rw [if_neg (show ¬ (100000 < xs.length) by omega)]
  (repeat' split) <;> omega
theorem wrong_zero {xs : List Int} {n : Int} (h : xs.length ≤ 100000) (hz : wrongE xs n = 0) : thrB n = true ∧ xs.all (inB n) = true := by
  unfold wrongE at hz
  rw [if_neg (show ¬ (100000 < xs.length) by omega)] at hz
  split at hz
  · omega
  · split at hz
    · rename_i h1 h2; exact ⟨by simpa using h1, h2⟩
    · omega
set_option maxRecDepth 100000 in
set_option maxHeartbeats 4000000 in
theorem walk (A : Option Addr) (k c : Nat) (xs : List Int) (l : xs.length = k) (_mk : k ≤ c) (_b : c ≤ 9223372036854775807) (_z : A = none → c = 0) (n : Int) (_wn : (Lit.int .i64 n).wf = true) (s : Int) (ws : (Lit.int .i64 s).wf = true)
    (w : World) (r : Rd (fun b => b < w.heap.size) w A (xs.map (Value.int .i64))) (_y : ∀ x ∈ xs, (Lit.int .i64 x).wf = true) :
    Calls Try.prog 4 #[.slice A k c, .int .i64 n, .int .i64 s] w fun e w' => e = .returned (.bool true) ∧ Below w.heap.size w w' := by
  have hs := wf_i64 ws
  have hr : Rd (fun _ => True) w A (ints xs) := r.mono (fun _ _ _ => trivial)
  have HL := Lib.hid l
  clear ws r l
  by_cases hg : 50 < k
  · have d1 : decide (50 < (k : Int)) = true := decide_eq_true (by omega)
    go_enter Try.func4, Try.ntmps4
    go_wp2_with (first | (go_at_call 10; refine (known_ok _).mono ?_; rintro e w' ⟨rfl, hkb⟩))
    go_ret
    exact ⟨rfl, by (repeat' (first | (with_reducible exact Below.refl _ _) | (with_reducible assumption) | (with_reducible refine Below.alloc ?_ ?_ _) | (with_reducible refine Below.drew ?_) | (with_reducible refine below_drewN ?_ _) | (with_reducible refine Below.setCell ?_ ?_ _) | (with_reducible refine Below.trans ?_ (Below.mono (by assumption) ?_)) | (first | go_size | (with_reducible exact Below.size (by assumption)) | (with_reducible exact Nat.le_trans (Below.size (by assumption)) (Below.size (by assumption))) | (refine Nat.le_trans (Below.size (by assumption)) ?_; go_size))))⟩
  have d1 : decide (50 < (k : Int)) = false := decide_eq_false (by omega)
  have hk : k ≤ 50 := by omega
  clear hg
  have hv := fun W hR => kvalid A xs k c n W _ hR HL.out (by omega) rfl
  have hrv := fun W hR => rvalid_any A xs k c n W hR HL.out (by omega) _mk
  have hrw := fun W hR => rwrong_any A xs k c n W hR HL.out (by omega) _mk
  obtain ⟨V, hV⟩ : ∃ V, validB xs n = V := ⟨_, rfl⟩
  rw [hV] at hv hrv
  clear hV
  have hve : (V != V) = false := by simp
  rcases wrong_two xs n (by rw [HL.out]; omega) with hE | hE
  · rw [hE] at hrw
    obtain ⟨ht, ha⟩ := wrong_zero (by rw [HL.out]; omega) hE
    have hp := thr_pos ht
    obtain ⟨N, rfl⟩ : ∃ N : Nat, n = N := ⟨n.toNat, by omega⟩
    have hN : N ≤ 64 := by omega
    have hcn := fun W hR => rcounts_any A xs k c N W hR HL.out (by omega) _mk (by omega)
    have hlc := fun W A' c' hR hR2 hc => lcounts_of N 0 (cntL xs N) A' A N c' k c W (counts_ok A xs k c N W hR HL.out ht (by omega) ha) hR2 (cntL_length xs N) (by omega) hc
    have hrwn := fun W hR => rwindow_any A xs k c N W hR HL.out (by omega) _mk _b (by omega) ha
    have hlw := fun W hR => kwindow A xs k c N (windowI xs N) W hR HL.out ht (by omega) ha rfl
    have HC := Lib.hid hcn
    have HLC := Lib.hid hlc
    have HRW := Lib.hid hrwn
    have HLW := Lib.hid hlw
    have HA := Lib.hid ha
    clear hE hcn hlc hrwn hlw ha
    go_enter Try.func4, Try.ntmps4
    go_wp2_with fail
    refine (hv _ hr).mono ?_
    rintro e w1 ⟨rfl, hb⟩
    have hr1 := hr.keep (Ch.of_below hb (fun _ => False)) (fun _ _ _ e => e)
    have hB1 : Below w.heap.size w w1 := hb
    clear hb hv
    go_wp2_with fail
    refine (hrv _ hr1).mono ?_
    rintro e w' ⟨rfl, rfl⟩
    go_wp2_with fail
    refine (hrw _ hr1).mono ?_
    rintro e w' ⟨rfl, rfl⟩
    clear hrv hrw
    go_wp2_with fail
    refine (HC.out _ hr1).mono ?_
    rintro e w2 ⟨A2, c2, rfl, k1, k2, k3, k4, hb⟩
    have hr2 := hr1.keep (Ch.of_below hb (fun _ => False)) (fun _ _ _ e => e)
    have hB2 := hB1.trans (hb.mono hB1.size)
    have hcall := HLC.out w2 A2 c2 hr2 (k1.mono (fun _ _ _ => trivial)) k2
    clear hb hr1 k1 hB1
    go_wp2_with fail
    refine hcall.mono ?_
    rintro e w3 ⟨rfl, hb⟩
    have hr3 := hr2.keep (Ch.of_below hb (fun _ => False)) (fun _ _ _ e => e)
    have hB3 := hB2.trans (hb.mono hB2.size)
    clear hb hr2 hcall hB2
    have hcw := HRW.out w3 hr3
    have hcl := HLW.out w3 hr3
    have hfo := fun hs1 => kfair A xs k c N s _ w3 hr3 HL.out ht (by omega) HA.out hs1 rfl
    generalize hG : windowI xs N = G at *
    have HG := Lib.hid hG
    clear hG
    go_wp2_with fail
    refine hcw.mono ?_
    rintro e w' ⟨rfl, rfl⟩
    go_wp2_with fail
    refine hcl.mono ?_
    rintro e w4 ⟨rfl, hb⟩
    have hr4 := hr3.keep (Ch.of_below hb (fun _ => False)) (fun _ _ _ e => e)
    have hB4 := hB3.trans (hb.mono hB3.size)
    clear hb hcw hcl hfo hB3 hr3
    by_cases hs1 : s < 1
    · have d2 : decide (s < 1) = true := decide_eq_true hs1
      have hcall := lfair_of N s 2 false A k c w4 (fair_small A k c N s w4 ht hs1)
      clear hs1
      go_wp2_with fail
      refine hcall.mono ?_
      rintro e w5 ⟨rfl, hb⟩
      go_wp2_with (first | (go_at_call 10; refine (known_ok _).mono ?_; rintro e w' ⟨rfl, hkb⟩))
      go_ret
      exact ⟨rfl, by (repeat' (first | (with_reducible exact Below.refl _ _) | (with_reducible assumption) | (with_reducible refine Below.alloc ?_ ?_ _) | (with_reducible refine Below.drew ?_) | (with_reducible refine below_drewN ?_ _) | (with_reducible refine Below.setCell ?_ ?_ _) | (with_reducible refine Below.trans ?_ (Below.mono (by assumption) ?_)) | (first | go_size | (with_reducible exact Below.size (by assumption)) | (with_reducible exact Nat.le_trans (Below.size (by assumption)) (Below.size (by assumption))) | (refine Nat.le_trans (Below.size (by assumption)) ?_; go_size))))⟩
    · have d2 : decide (s < 1) = false := decide_eq_false hs1
      obtain ⟨S, rfl⟩ : ∃ S : Nat, s = S := ⟨s.toNat, by omega⟩
      have hrf := rfair_any A xs k c N S w4 hr4 HL.out (by omega) _mk _b (by omega) (by omega) (by omega) _ (fair_pure xs N S HA.out (by omega))
      have hfo := kfair A xs k c N S (decide (windowI xs N ≤ S)) w4 hr4 HL.out ht (by omega) HA.out (by omega) (by rw [decide_eq_decide]; omega)
      rw [HG.out] at hrf hfo
      obtain ⟨D, hD⟩ : ∃ D, decide (G ≤ S) = D := ⟨_, rfl⟩
      rw [hD] at hrf hfo
      clear hs1 hD
      go_wp2_with fail
      refine hrf.mono ?_
      rintro e w' ⟨rfl, rfl⟩
      go_wp2_with fail
      refine hfo.mono ?_
      rintro e w5 ⟨rfl, hb⟩
      go_wp2_with (first | (go_at_call 10; refine (known_ok _).mono ?_; rintro e w' ⟨rfl, hkb⟩))
      go_ret
      exact ⟨rfl, by (repeat' (first | (with_reducible exact Below.refl _ _) | (with_reducible assumption) | (with_reducible refine Below.alloc ?_ ?_ _) | (with_reducible refine Below.drew ?_) | (with_reducible refine below_drewN ?_ _) | (with_reducible refine Below.setCell ?_ ?_ _) | (with_reducible refine Below.trans ?_ (Below.mono (by assumption) ?_)) | (first | go_size | (with_reducible exact Below.size (by assumption)) | (with_reducible exact Nat.le_trans (Below.size (by assumption)) (Below.size (by assumption))) | (refine Nat.le_trans (Below.size (by assumption)) ?_; go_size))))⟩
  · rw [hE] at hrw
    have hne : wrongE xs n ≠ 0 := by omega
    have hlc := fun W hR => lcounts_of n 2 [] none A 0 0 k c W (by have := counts_bad A xs k c n W hR HL.out (by omega) hne; rwa [hE] at this) (Rd.nil _ _ _) rfl (by omega) (by omega)
    have hlw := fun W hR => lwindow_of n 2 0 A k c W (by have := window_bad A xs k c n W hR HL.out (by omega) hne; rwa [hE] at this)
    have hlf := fun W hR => lfair_of n s 2 false A k c W (by have := fair_bad A xs k c n s W hR HL.out (by omega) hne; rw [hE] at this; rwa [show (if thrB n = true ∧ s < 1 then (2 : Int) else 2) = 2 by split <;> rfl] at this)
    have HC := Lib.hid hlc
    have HW := Lib.hid hlw
    have HF := Lib.hid hlf
    clear hE hne hlc hlw hlf
    go_enter Try.func4, Try.ntmps4
    go_wp2_with fail
    refine (hv _ hr).mono ?_
    rintro e w1 ⟨rfl, hb⟩
    have hr1 := hr.keep (Ch.of_below hb (fun _ => False)) (fun _ _ _ e => e)
    have hB1 : Below w.heap.size w w1 := hb
    clear hb hv
    go_wp2_with fail
    refine (hrv _ hr1).mono ?_
    rintro e w' ⟨rfl, rfl⟩
    go_wp2_with fail
    refine (hrw _ hr1).mono ?_
    rintro e w' ⟨rfl, rfl⟩
    clear hrv hrw
    go_wp2_with fail
    refine (HC.out _ hr1).mono ?_
    rintro e w2 ⟨rfl, hb⟩
    have hr2 := hr1.keep (Ch.of_below hb (fun _ => False)) (fun _ _ _ e => e)
    have hB2 := hB1.trans (hb.mono hB1.size)
    clear hb hr1 hB1
    go_wp2_with fail
    refine (HW.out _ hr2).mono ?_
    rintro e w3 ⟨rfl, hb⟩
    have hr3 := hr2.keep (Ch.of_below hb (fun _ => False)) (fun _ _ _ e => e)
    have hB3 := hB2.trans (hb.mono hB2.size)
    clear hb hr2 hB2
    go_wp2_with fail
    refine (HF.out _ hr3).mono ?_
    rintro e w4 ⟨rfl, hb⟩
    go_wp2_with (first | (go_at_call 10; refine (known_ok _).mono ?_; rintro e w' ⟨rfl, hkb⟩))
    go_ret
    exact ⟨rfl, by (repeat' (first | (with_reducible exact Below.refl _ _) | (with_reducible assumption) | (with_reducible refine Below.alloc ?_ ?_ _) | (with_reducible refine Below.drew ?_) | (with_reducible refine below_drewN ?_ _) | (with_reducible refine Below.setCell ?_ ?_ _) | (with_reducible refine Below.trans ?_ (Below.mono (by assumption) ?_)) | (first | go_size | (with_reducible exact Below.size (by assumption)) | (with_reducible exact Nat.le_trans (Below.size (by assumption)) (Below.size (by assumption))) | (refine Nat.le_trans (Below.size (by assumption)) ?_; go_size))))⟩
end QueueLooks
end Go.Proofs.Ytbpkedghnjiehaa
