/-
  Contracts of package queue, third part: Window, Fair.
-/
import Derived.Test.YtbpkedghnjiehaaQueue2
namespace Go.Proofs.Ytbpkedghnjiehaa
open Go.RowKit

theorem max_nat (a b : Nat) : (if (a : Int) < (b : Int) then (b : Int) else (a : Int)) = ((max a b : Nat) : Int) := by split <;> omega
theorem lgI_succ (l : List Int) (k : Nat) : lgI l (k + 1) = max (lgI l k) (k - lastI l k (l.getD k 0)) := rfl
theorem lfI_succ (l : List Int) (t : Nat) : lfI l (t + 1) = max (lfI l t) (l.length - lastI l l.length (t : Nat)) := rfl
set_option maxHeartbeats 1000000 in
theorem window_ok (A : Option Addr) (xs : List Int) (m c n : Nat) (w : World) (hr : Rd (fun _ => True) w A (ints xs)) (hl : xs.length = m) (ht : thrB n = true) (hm : m ≤ 100000) (ha : xs.all (inB n) = true) :
    Calls Try.prog 28 #[.slice A m c, .int .i64 n] w fun e w' => e = .returned (.tuple #[.int .i64 (windowI xs n), .int .i64 0]) ∧ Below w.heap.size w w' := by
  have hn := thr_pos ht
  have hw0 := fun W hR => wrong_any A xs m c n W hR hl (by omega)
  rw [show wrongE xs n = 0 from by unfold wrongE; rw [if_neg (by rw [ht]; simp), if_neg (by omega), if_pos ha]] at hw0
  have hal := all_in ha
  subst hl
  have hmk := fun W => make_int n (by omega) W
  clear ha
  go_enter Try.func28, Try.ntmps28
  go_wp2_with fail
  refine (hw0 _ hr).mono ?_
  rintro e w1 ⟨rfl, hb1⟩
  have hz1 := hb1.size
  clear hw0
  go_wp2
  go_loopw [7, 23] (fun v7 v wr => ∃ k : Nat, k ≤ xs.length ∧ v = .int .i64 k ∧ v7 = .int .i64 (lgI xs k : Int) ∧ Blk wr w1.heap.size 3 (ints (lastL xs k n)) ∧ Below w.heap.size w wr) (fun _ v _ => xs.length - (intOf v).toNat)
  case atStart => exact ⟨0, Nat.zero_le _, rfl, rfl, by rw [lastL_zero]; exact Blk.new _ _ _, by (repeat' (first | (with_reducible exact Below.refl _ _) | (with_reducible assumption) | (with_reducible refine Below.alloc ?_ ?_ _) | (with_reducible refine Below.drew ?_) | (with_reducible refine below_drewN ?_ _) | (with_reducible refine Below.setCell ?_ ?_ _) | (with_reducible refine Below.trans ?_ (Below.mono (by assumption) ?_)) | (first | go_size | (with_reducible exact Below.size (by assumption)) | (with_reducible exact Nat.le_trans (Below.size (by assumption)) (Below.size (by assumption))) | (refine Nat.le_trans (Below.size (by assumption)) ?_; go_size))))⟩
  case round =>
    obtain ⟨k, hk, rfl, rfl, hB, hb⟩ := hrel
    have hbsz := hb.size
    by_cases hlt : k < xs.length
    · obtain ⟨b, o, rfl, _, hbs, hcell⟩ := rd_int (hr.keep (Ch.of_below hb (fun _ => False)) (fun _ _ _ e => e)) hlt
      obtain ⟨t, ht1, ht2⟩ := hal k hlt
      have hsn := lastL_succ xs k n t ht2 ht1
      rw [ht1] at hcell
      have hcl := lastI_le xs (t : Int) k
      have hgl := lgI_le xs k
      have hcc := hB.cell t
      rw [ints_get (lastL_get xs k n t ht2)] at hcc
      have hfz := hB.frozen t
      have hset := hB.set t (.int .i64 ((k : Int) + 1))
      rw [ints_set, ← hsn] at hset
      have HSET := Lib.hid hset
      have hg := lgI_succ xs k
      rw [ht1] at hg
      generalize lastI xs k t = q at *
      generalize lgI xs k = G at *
      have HG := Lib.hid hg
      have HT := Lib.hid ht1
      have i1 : (0 : Int) ≤ t := Int.natCast_nonneg _
      have i2 : (t : Int) < n := by omega
      clear hsn ht1 hset hg
      go_wp2
      all_goals
        go_roundw
        case rel => exact ⟨k + 1, by omega, by go_num, by rw [HG.out]; exact val_int (by omega), HSET.out, by (repeat' (first | (with_reducible exact Below.refl _ _) | (with_reducible assumption) | (with_reducible refine Below.alloc ?_ ?_ _) | (with_reducible refine Below.drew ?_) | (with_reducible refine below_drewN ?_ _) | (with_reducible refine Below.setCell ?_ ?_ _) | (with_reducible refine Below.trans ?_ (Below.mono (by assumption) ?_)) | (first | go_size | (with_reducible exact Below.size (by assumption)) | (with_reducible exact Nat.le_trans (Below.size (by assumption)) (Below.size (by assumption))) | (refine Nat.le_trans (Below.size (by assumption)) ?_; go_size))))⟩
        case measure => simp [intOf]; omega
    · obtain rfl : k = xs.length := by omega
      go_wp2
      go_loopw [7, 44] (fun v7 v wq => ∃ t : Nat, t ≤ n ∧ v = .int .i64 t ∧ v7 = .int .i64 (lfI xs t : Int) ∧ wq = wr) (fun _ v _ => n - (intOf v).toNat)
      case atStart => exact ⟨0, Nat.zero_le _, rfl, rfl, rfl⟩
      case round =>
        obtain ⟨t, htn, rfl, rfl, rfl⟩ := hrel
        have hgl := lfI_le xs t
        by_cases hlt2 : t < n
        · have hcc := hB.cell t
          rw [ints_get (lastL_get xs _ n t hlt2)] at hcc
          have hcl := lastI_le xs (t : Int) xs.length
          have hg := lfI_succ xs t
          generalize lastI xs xs.length t = q at *
          generalize lfI xs t = G at *
          have HG := Lib.hid hg
          have i1 : (0 : Int) ≤ t := Int.natCast_nonneg _
          have i2 : (t : Int) < n := by omega
          clear hg
          go_wp2
          all_goals
            go_roundw
            case rel => exact ⟨t + 1, by omega, by go_num, by rw [HG.out]; exact val_int (by omega), by first | rfl | trivial⟩
            case measure => simp [intOf]; omega
        · obtain rfl : n = t := by omega
          go_wp2
          go_ret2
          exact ⟨by unfold windowI; simp, hb⟩
theorem window_bad (A : Option Addr) (xs : List Int) (m c : Nat) (n : Int) (w : World) (hr : Rd (fun _ => True) w A (ints xs)) (hl : xs.length = m) (hm : m ≤ 9223372036854775806) (ha : wrongE xs n ≠ 0) :
    Calls Try.prog 28 #[.slice A m c, .int .i64 n] w fun e w' => e = .returned (.tuple #[.int .i64 0, .int .i64 (wrongE xs n)]) ∧ Below w.heap.size w w' := by
  have hw0 := fun W hR => wrong_any A xs m c n W hR hl hm
  have hbd := wrongE_bd xs n
  generalize wrongE xs n = E at *
  have d1 : (E == 0) = false := by rw [beq_eq_false_iff_ne]; exact ha
  have d2 : (E != 0) = true := by rw [bne_iff_ne]; exact ha
  clear ha
  go_enter Try.func28, Try.ntmps28
  go_wp2_with fail
  refine (hw0 _ hr).mono ?_
  rintro e w1 ⟨rfl, hb1⟩
  clear hw0
  go_wp2
  go_ret2
  exact ⟨rfl, hb1⟩
theorem fair_ok (A : Option Addr) (xs : List Int) (m c n : Nat) (s : Int) (w : World) (hr : Rd (fun _ => True) w A (ints xs)) (hl : xs.length = m) (ht : thrB n = true) (hm : m ≤ 100000) (ha : xs.all (inB n) = true) (hs : 1 ≤ s) :
    Calls Try.prog 39 #[.slice A m c, .int .i64 n, .int .i64 s] w fun e w' => e = .returned (.tuple #[.bool (decide ((windowI xs n : Int) ≤ s)), .int .i64 0]) ∧ Below w.heap.size w w' := by
  have hw0 := fun W hR => window_ok A xs m c n W hR hl ht hm ha
  have d1 : decide (s < 1) = false := decide_eq_false (by omega)
  generalize windowI xs n = G at *
  clear ha
  go_enter Try.func39, Try.ntmps39
  go_wp2_with (first | (go_at_call 36; refine (some_yes _ _ ht).mono ?_; rintro e w' ⟨rfl, rfl⟩) | (go_at_call 28; refine (hw0 _ hr).mono ?_; rintro e w1 ⟨rfl, hb1⟩))
  go_ret2
  exact ⟨rfl, by (repeat' (first | (with_reducible exact Below.refl _ _) | (with_reducible assumption) | (with_reducible refine Below.alloc ?_ ?_ _) | (with_reducible refine Below.drew ?_) | (with_reducible refine below_drewN ?_ _) | (with_reducible refine Below.setCell ?_ ?_ _) | (with_reducible refine Below.trans ?_ (Below.mono (by assumption) ?_)) | (first | go_size | (with_reducible exact Below.size (by assumption)) | (with_reducible exact Nat.le_trans (Below.size (by assumption)) (Below.size (by assumption))) | (refine Nat.le_trans (Below.size (by assumption)) ?_; go_size))))⟩
theorem fair_small (A : Option Addr) (m c : Nat) (n : Int) (s : Int) (w : World) (ht : thrB n = true) (hs : s < 1) :
    Calls Try.prog 39 #[.slice A m c, .int .i64 n, .int .i64 s] w fun e w' => e = .returned (.tuple #[.bool false, .int .i64 2]) ∧ Below w.heap.size w w' := by
  have d1 : decide (s < 1) = true := decide_eq_true (by omega)
  go_enter Try.func39, Try.ntmps39
  go_wp2_with (first | (go_at_call 36; refine (some_yes _ _ ht).mono ?_; rintro e w' ⟨rfl, rfl⟩))
  go_ret2
  exact ⟨rfl, by (repeat' (first | (with_reducible exact Below.refl _ _) | (with_reducible assumption) | (with_reducible refine Below.alloc ?_ ?_ _) | (with_reducible refine Below.drew ?_) | (with_reducible refine below_drewN ?_ _) | (with_reducible refine Below.setCell ?_ ?_ _) | (with_reducible refine Below.trans ?_ (Below.mono (by assumption) ?_)) | (first | go_size | (with_reducible exact Below.size (by assumption)) | (with_reducible exact Nat.le_trans (Below.size (by assumption)) (Below.size (by assumption))) | (refine Nat.le_trans (Below.size (by assumption)) ?_; go_size))))⟩
theorem fair_bad (A : Option Addr) (xs : List Int) (m c : Nat) (n : Int) (s : Int) (w : World) (hr : Rd (fun _ => True) w A (ints xs)) (hl : xs.length = m) (hm : m ≤ 9223372036854775806) (ha : wrongE xs n ≠ 0) :
    Calls Try.prog 39 #[.slice A m c, .int .i64 n, .int .i64 s] w fun e w' => e = .returned (.tuple #[.bool false, .int .i64 (if thrB n = true ∧ s < 1 then 2 else wrongE xs n)]) ∧ Below w.heap.size w w' := by
  by_cases hc : thrB n = true ∧ s < 1
  · rw [if_pos hc]
    exact fair_small A m c n s w hc.1 hc.2
  · rw [if_neg hc]
    have hw0 := fun W hR => window_bad A xs m c n W hR hl hm ha
    have hbd := wrongE_bd xs n
    generalize wrongE xs n = E at *
    have d1 : (E == 0) = false := by rw [beq_eq_false_iff_ne]; exact ha
    clear ha
    cases ht : thrB n with
    | false =>
      clear hc
      go_enter Try.func39, Try.ntmps39
      go_wp2_with (first | (go_at_call 36; refine (some_no _ _ ht).mono ?_; rintro e w' ⟨rfl, rfl⟩) | (go_at_call 28; refine (hw0 _ hr).mono ?_; rintro e w1 ⟨rfl, hb1⟩))
      go_ret2
      exact ⟨rfl, by (repeat' (first | (with_reducible exact Below.refl _ _) | (with_reducible assumption) | (with_reducible refine Below.alloc ?_ ?_ _) | (with_reducible refine Below.drew ?_) | (with_reducible refine below_drewN ?_ _) | (with_reducible refine Below.setCell ?_ ?_ _) | (with_reducible refine Below.trans ?_ (Below.mono (by assumption) ?_)) | (first | go_size | (with_reducible exact Below.size (by assumption)) | (with_reducible exact Nat.le_trans (Below.size (by assumption)) (Below.size (by assumption))) | (refine Nat.le_trans (Below.size (by assumption)) ?_; go_size))))⟩
    | true =>
      have d2 : decide (s < 1) = false := decide_eq_false (fun h => hc ⟨ht, h⟩)
      clear hc
      go_enter Try.func39, Try.ntmps39
      go_wp2_with (first | (go_at_call 36; refine (some_yes _ _ ht).mono ?_; rintro e w' ⟨rfl, rfl⟩) | (go_at_call 28; refine (hw0 _ hr).mono ?_; rintro e w1 ⟨rfl, hb1⟩))
      go_ret2
      exact ⟨rfl, by (repeat' (first | (with_reducible exact Below.refl _ _) | (with_reducible assumption) | (with_reducible refine Below.alloc ?_ ?_ _) | (with_reducible refine Below.drew ?_) | (with_reducible refine below_drewN ?_ _) | (with_reducible refine Below.setCell ?_ ?_ _) | (with_reducible refine Below.trans ?_ (Below.mono (by assumption) ?_)) | (first | go_size | (with_reducible exact Below.size (by assumption)) | (with_reducible exact Nat.le_trans (Below.size (by assumption)) (Below.size (by assumption))) | (refine Nat.le_trans (Below.size (by assumption)) ?_; go_size))))⟩
end Go.Proofs.Ytbpkedghnjiehaa
