/-
  The walk of QueueNew: it returns true at every input.
-/
import Derived.Test.YtbpkedghnjiehaaK03b
import Derived.Test.YtbpkedghnjiehaaRQueue
namespace Go.Proofs.Ytbpkedghnjiehaa
open Go.RowKit
namespace QueueNew
theorem wf_i64 {x : Int} (h : (Lit.int .i64 x).wf = true) : -9223372036854775808 ≤ x ∧ x ≤ 9223372036854775807 := by
  simp [Lit.wf, IntKind.min, IntKind.max, IntKind.signed, IntKind.bits] at h
  omega
set_option maxRecDepth 100000 in
set_option maxHeartbeats 2000000 in
theorem walk (n : Int) (wn : (Lit.int .i64 n).wf = true) (s : Int) (ws : (Lit.int .i64 s).wf = true) (w : World) :
    Calls Try.prog 6 #[.int .i64 n, .int .i64 s] w fun e w' => e = .returned (.bool true) ∧ Below w.heap.size w w' := by
  have hn := wf_i64 wn
  have hs := wf_i64 ws
  clear wn ws
  by_cases hb : thrB n = false ∨ s < n ∨ 100000 < s
  · have hnew := pnew_bad n s w hb
    cases ht : thrB n with
    | false =>
      clear hb
      go_enter Try.func6, Try.ntmps6
      go_wp2_with (first | (go_at_call 24; refine hnew.mono ?_; rintro e w' ⟨rfl, rfl⟩) | (go_at_call 11; refine (rthr_no _ _ ht).mono ?_; rintro e w' ⟨rfl, rfl⟩) | (go_at_call 10; refine (known_ok _).mono ?_; rintro e w' ⟨rfl, hkb⟩))
      go_ret
      exact ⟨rfl, by (repeat' (first | (with_reducible exact Below.refl _ _) | (with_reducible assumption) | (with_reducible refine Below.alloc ?_ ?_ _) | (with_reducible refine Below.drew ?_) | (with_reducible refine below_drewN ?_ _) | (with_reducible refine Below.setCell ?_ ?_ _) | (with_reducible refine Below.trans ?_ (Below.mono (by assumption) ?_)) | (first | go_size | (with_reducible exact Below.size (by assumption)) | (with_reducible exact Nat.le_trans (Below.size (by assumption)) (Below.size (by assumption))) | (refine Nat.le_trans (Below.size (by assumption)) ?_; go_size))))⟩
    | true =>
      by_cases h1 : s < n
      · have d1 : decide (s < n) = true := decide_eq_true h1
        clear hb
        go_enter Try.func6, Try.ntmps6
        go_wp2_with (first | (go_at_call 24; refine hnew.mono ?_; rintro e w' ⟨rfl, rfl⟩) | (go_at_call 11; refine (rthr_yes _ _ ht).mono ?_; rintro e w' ⟨rfl, rfl⟩) | (go_at_call 10; refine (known_ok _).mono ?_; rintro e w' ⟨rfl, hkb⟩))
        go_ret
        exact ⟨rfl, by (repeat' (first | (with_reducible exact Below.refl _ _) | (with_reducible assumption) | (with_reducible refine Below.alloc ?_ ?_ _) | (with_reducible refine Below.drew ?_) | (with_reducible refine below_drewN ?_ _) | (with_reducible refine Below.setCell ?_ ?_ _) | (with_reducible refine Below.trans ?_ (Below.mono (by assumption) ?_)) | (first | go_size | (with_reducible exact Below.size (by assumption)) | (with_reducible exact Nat.le_trans (Below.size (by assumption)) (Below.size (by assumption))) | (refine Nat.le_trans (Below.size (by assumption)) ?_; go_size))))⟩
      · have d1 : decide (s < n) = false := decide_eq_false h1
        have d2 : decide (100000 < s) = true := decide_eq_true (by rw [ht] at hb; rcases hb with h | h | h; cases h; omega; exact h)
        clear hb
        go_enter Try.func6, Try.ntmps6
        go_wp2_with (first | (go_at_call 24; refine hnew.mono ?_; rintro e w' ⟨rfl, rfl⟩) | (go_at_call 11; refine (rthr_yes _ _ ht).mono ?_; rintro e w' ⟨rfl, rfl⟩) | (go_at_call 10; refine (known_ok _).mono ?_; rintro e w' ⟨rfl, hkb⟩))
        go_ret
        exact ⟨rfl, by (repeat' (first | (with_reducible exact Below.refl _ _) | (with_reducible assumption) | (with_reducible refine Below.alloc ?_ ?_ _) | (with_reducible refine Below.drew ?_) | (with_reducible refine below_drewN ?_ _) | (with_reducible refine Below.setCell ?_ ?_ _) | (with_reducible refine Below.trans ?_ (Below.mono (by assumption) ?_)) | (first | go_size | (with_reducible exact Below.size (by assumption)) | (with_reducible exact Nat.le_trans (Below.size (by assumption)) (Below.size (by assumption))) | (refine Nat.le_trans (Below.size (by assumption)) ?_; go_size))))⟩
  · have ht : thrB n = true := by cases h : thrB n <;> simp_all
    have hp := thr_pos ht
    obtain ⟨N, rfl⟩ : ∃ N : Nat, n = N := ⟨n.toNat, by omega⟩
    have h1 : (N : Int) ≤ s ∧ s ≤ 100000 := by
      constructor
      · apply Int.not_lt.1; intro h; exact hb (.inr (.inl h))
      · apply Int.not_lt.1; intro h; exact hb (.inr (.inr h))
    have d1 : decide (s < (N : Int)) = false := decide_eq_false (by omega)
    have d2 : decide (100000 < s) = false := decide_eq_false (by omega)
    have hN1 : 1 ≤ N := by omega
    clear hb
    go_enter Try.func6, Try.ntmps6
    go_wp2_with fail
    refine (pnew_ok N s w ht h1.1 h1.2).mono ?_
    rintro e w1 ⟨b, g, c, rfl, hP, hbW, hgW, hB⟩
    have hzl := zeros_length N
    have a0 : ∀ t : Nat, t < N → (zeros N).getD t 0 = 0 := fun t h => by simp [zeros, List.getD, h]
    have k0 := page_ok b g c s 0 (zeros N) 0 w1 hP (by rw [hzl]; omega)
    have k1 := page_ok b g c s 0 (zeros N) (N - 1) w1 hP (by rw [hzl]; omega)
    rw [a0 0 (by omega)] at k0
    rw [a0 (N - 1) (by omega), show ((N - 1 : Nat) : Int) = (N : Int) - 1 by omega] at k1
    have k2 := page_bad b g c s 0 (zeros N) N w1 hP (.inr (by rw [hzl]; omega))
    have k3 := page_bad b g c s 0 (zeros N) (-1) w1 hP (.inl (by omega))
    clear a0 hzl
    have H0 := Lib.hid k0
    have H1 := Lib.hid k1
    have H2 := Lib.hid k2
    have H3 := Lib.hid k3
    clear k0 k1 k2 k3
    go_wp2_with fail
    refine (rthr_yes _ _ ht).mono ?_
    rintro e w' ⟨rfl, rfl⟩
    go_wp2_with fail
    refine (ppicks_ok b g c s 0 (zeros N) _ hP).mono ?_
    rintro e w' ⟨rfl, rfl⟩
    go_wp2_with fail
    refine H0.out.mono ?_
    rintro e w' ⟨rfl, rfl⟩
    go_wp2_with fail
    refine H1.out.mono ?_
    rintro e w' ⟨rfl, rfl⟩
    go_wp2_with fail
    refine H2.out.mono ?_
    rintro e w' ⟨rfl, rfl⟩
    go_wp2_with fail
    refine H3.out.mono ?_
    rintro e w' ⟨rfl, rfl⟩
    go_wp2_with (first | (go_at_call 10; refine (known_ok _).mono ?_; rintro e w' ⟨rfl, hkb⟩))
    go_ret
    exact ⟨rfl, by (repeat' (first | (with_reducible exact Below.refl _ _) | (with_reducible assumption) | (with_reducible refine Below.alloc ?_ ?_ _) | (with_reducible refine Below.drew ?_) | (with_reducible refine below_drewN ?_ _) | (with_reducible refine Below.setCell ?_ ?_ _) | (with_reducible refine Below.trans ?_ (Below.mono (by assumption) ?_)) | (first | go_size | (with_reducible exact Below.size (by assumption)) | (with_reducible exact Nat.le_trans (Below.size (by assumption)) (Below.size (by assumption))) | (refine Nat.le_trans (Below.size (by assumption)) ?_; go_size))))⟩
end QueueNew
end Go.Proofs.Ytbpkedghnjiehaa
