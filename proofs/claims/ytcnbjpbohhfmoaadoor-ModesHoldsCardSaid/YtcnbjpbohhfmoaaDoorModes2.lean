/-
  Contracts of package modes, second part: All, Goes.
-/
import Derived.Test.YtcnbjpbohhfmoaaDoorModes
namespace Go.Proofs.YtcnbjpbohhfmoaaDoor
open Go.RowKit

theorem all_any (A : Option Addr) (xs : List Int) (c : Nat) (w : World) (ht : Tab w) (hr : Rd (fun _ => True) w A (ints xs)) (hc : xs.length ≤ c) (_hn : c ≤ 9223372036854775807) (hn' : xs.length ≤ 9223372036854775806) :
    Calls Tryd.prog 17 #[.slice A xs.length c] w fun e w' => e = .returned (.bool (aB xs)) ∧ Below w.heap.size w w' := by
  go_enter Tryd.func17, Tryd.ntmps17
  go_wp2
  go_loopw [7] (fun v wr => ∃ k : Nat, k ≤ xs.length ∧ v = .int .i64 k ∧ aBto xs k = true ∧ Below w.heap.size w wr) (fun v _ => xs.length - (intOf v).toNat)
  case atStart => exact ⟨0, Nat.zero_le _, rfl, rfl, Below.refl _ _⟩
  case round =>
    obtain ⟨k, hk, rfl, hall, hb⟩ := hrel
    have HA := Lib.hid hall
    clear hall
    have ht' := ht.below hb
    have hr' := hr.keep (Ch.of_below hb (fun _ => False)) (fun _ _ _ e => e)
    by_cases hlt : k < xs.length
    · obtain ⟨b, o, rfl, _, hbs, hcell⟩ := rd_int hr' hlt
      have hr2 : Rd (fun _ => True) wr (some ⟨b, o, none⟩) (ints (xs.take k)) := by
        have := hr'.take k
        rwa [show (ints xs).take k = ints (xs.take k) from by simp [ints]] at this
      have hl : (xs.take k).length = k := by simp; omega
      obtain ⟨x, hx⟩ : ∃ x, x = xs.getD k 0 := ⟨_, rfl⟩
      rw [← hx] at hcell
      have HX := Lib.hid hx
      clear hx
      by_cases hv : vB x = true
      · have HL := Lib.hid hl
        clear hl
        have HT := ht'
        cases hw : wB x (xs.take k) with
        | true =>
          have HN : Hid (aBto xs (k + 1) = true) := by
            show (aBto xs k && _) = true
            rw [HA.out, ← HX.out, hv, hw]
            rfl
          go_wp2_with (first | (go_at_call 9; refine (valid_yes x _ hv).mono ?_; rintro e w' ⟨rfl, rfl⟩) | (go_at_call 26; refine (with_any x _ (xs.take k) k c _ HT hr2 HL.out (by omega)).mono ?_; rintro e w' ⟨rfl, rfl⟩))
          go_roundw
          case rel => exact ⟨k + 1, by omega, by go_num, HN.out, by (repeat' (first | (with_reducible exact Below.refl _ _) | (with_reducible assumption) | (with_reducible refine Below.alloc ?_ ?_ _) | (with_reducible refine Below.drew ?_) | (with_reducible refine below_drewN ?_ _) | (with_reducible refine Below.setCell ?_ ?_ _) | (with_reducible refine Below.trans ?_ (Below.mono (by assumption) ?_)) | (first | go_size | (with_reducible exact Below.size (by assumption)) | (with_reducible exact Nat.le_trans (Below.size (by assumption)) (Below.size (by assumption))) | (refine Nat.le_trans (Below.size (by assumption)) ?_; go_size))))⟩
          case measure => simp [intOf]; omega
        | false =>
          have HN : Hid (aB xs = false) := aB_false xs k hlt (by rw [← HX.out, hw]; simp)
          go_wp2_with (first | (go_at_call 9; refine (valid_yes x _ hv).mono ?_; rintro e w' ⟨rfl, rfl⟩) | (go_at_call 26; refine (with_any x _ (xs.take k) k c _ HT hr2 HL.out (by omega)).mono ?_; rintro e w' ⟨rfl, rfl⟩))
          go_ret
          exact ⟨by rw [HN.out]; rfl, by (repeat' (first | (with_reducible exact Below.refl _ _) | (with_reducible assumption) | (with_reducible refine Below.alloc ?_ ?_ _) | (with_reducible refine Below.drew ?_) | (with_reducible refine below_drewN ?_ _) | (with_reducible refine Below.setCell ?_ ?_ _) | (with_reducible refine Below.trans ?_ (Below.mono (by assumption) ?_)) | (first | go_size | (with_reducible exact Below.size (by assumption)) | (with_reducible exact Nat.le_trans (Below.size (by assumption)) (Below.size (by assumption))) | (refine Nat.le_trans (Below.size (by assumption)) ?_; go_size))))⟩
      · have hv' : vB x = false := by simpa using hv
        have HN : Hid (aB xs = false) := aB_false xs k hlt (by rw [← HX.out, hv']; simp)
        clear hv
        go_wp2_with (go_at_call 9; refine (valid_no x _ hv').mono ?_; rintro e w' ⟨rfl, rfl⟩)
        go_ret
        exact ⟨by rw [HN.out]; rfl, by (repeat' (first | (with_reducible exact Below.refl _ _) | (with_reducible assumption) | (with_reducible refine Below.alloc ?_ ?_ _) | (with_reducible refine Below.drew ?_) | (with_reducible refine below_drewN ?_ _) | (with_reducible refine Below.setCell ?_ ?_ _) | (with_reducible refine Below.trans ?_ (Below.mono (by assumption) ?_)) | (first | go_size | (with_reducible exact Below.size (by assumption)) | (with_reducible exact Nat.le_trans (Below.size (by assumption)) (Below.size (by assumption))) | (refine Nat.le_trans (Below.size (by assumption)) ?_; go_size))))⟩
    · obtain rfl : k = xs.length := by omega
      go_wp2
      go_ret
      exact ⟨by rw [show aB xs = true from HA.out]; rfl, by (repeat' (first | (with_reducible exact Below.refl _ _) | (with_reducible assumption) | (with_reducible refine Below.alloc ?_ ?_ _) | (with_reducible refine Below.drew ?_) | (with_reducible refine below_drewN ?_ _) | (with_reducible refine Below.setCell ?_ ?_ _) | (with_reducible refine Below.trans ?_ (Below.mono (by assumption) ?_)) | (first | go_size | (with_reducible exact Below.size (by assumption)) | (with_reducible exact Nat.le_trans (Below.size (by assumption)) (Below.size (by assumption))) | (refine Nat.le_trans (Below.size (by assumption)) ?_; go_size))))⟩

theorem goes_any (m : Int) (A : Option Addr) (xs : List Int) (n c : Nat) (g : Int) (bh : Bool) (w : World) (ht : Tab w) (hr : Rd (fun _ => True) w A (ints xs)) (hl : xs.length = n) (hn : n ≤ 9223372036854775806) :
    Calls Tryd.prog 19 #[.int .i64 m, .slice A n c, .int .i64 g, .bool bh] w fun e w' => e = .returned (.bool (gB m xs g bh)) ∧ Below w.heap.size w w' := by
  cases hv : vB m with
  | false =>
    have HN : Hid (gB m xs g bh = false) := by show gB m xs g bh = false; simp [gB, hv]
    go_enter Tryd.func19, Tryd.ntmps19
    go_wp2_with (go_at_call 9; refine (valid_no m _ hv).mono ?_; rintro e w' ⟨rfl, rfl⟩)
    go_ret
    exact ⟨by rw [HN.out]; rfl, by (repeat' (first | (with_reducible exact Below.refl _ _) | (with_reducible assumption) | (with_reducible refine Below.alloc ?_ ?_ _) | (with_reducible refine Below.drew ?_) | (with_reducible refine below_drewN ?_ _) | (with_reducible refine Below.setCell ?_ ?_ _) | (with_reducible refine Below.trans ?_ (Below.mono (by assumption) ?_)) | (first | go_size | (with_reducible exact Below.size (by assumption)) | (with_reducible exact Nat.le_trans (Below.size (by assumption)) (Below.size (by assumption))) | (refine Nat.le_trans (Below.size (by assumption)) ?_; go_size))))⟩
  | true =>
    cases hw : wB m xs with
    | false =>
      have HN : Hid (gB m xs g bh = false) := by show gB m xs g bh = false; simp [gB, hw]
      go_enter Tryd.func19, Tryd.ntmps19
      go_wp2_with (first | (go_at_call 9; refine (valid_yes m _ hv).mono ?_; rintro e w' ⟨rfl, rfl⟩) | (go_at_call 26; refine (with_any m _ xs n c _ ht hr hl hn).mono ?_; rintro e w' ⟨rfl, rfl⟩))
      go_ret
      exact ⟨by rw [HN.out]; rfl, by (repeat' (first | (with_reducible exact Below.refl _ _) | (with_reducible assumption) | (with_reducible refine Below.alloc ?_ ?_ _) | (with_reducible refine Below.drew ?_) | (with_reducible refine below_drewN ?_ _) | (with_reducible refine Below.setCell ?_ ?_ _) | (with_reducible refine Below.trans ?_ (Below.mono (by assumption) ?_)) | (first | go_size | (with_reducible exact Below.size (by assumption)) | (with_reducible exact Nat.le_trans (Below.size (by assumption)) (Below.size (by assumption))) | (refine Nat.le_trans (Below.size (by assumption)) ?_; go_size))))⟩
    | true =>
      by_cases h1 : m = 1
      · subst h1
        cases bh with
        | false =>
          have HN : Hid (gB 1 xs g false = true) := by show gB 1 xs g false = true; simp [gB, hw, hv]
          go_enter Tryd.func19, Tryd.ntmps19
          go_wp2_with (first | (go_at_call 9; refine (valid_yes 1 _ hv).mono ?_; rintro e w' ⟨rfl, rfl⟩) | (go_at_call 26; refine (with_any 1 _ xs n c _ ht hr hl hn).mono ?_; rintro e w' ⟨rfl, rfl⟩))
          go_ret
          exact ⟨by rw [HN.out]; rfl, by (repeat' (first | (with_reducible exact Below.refl _ _) | (with_reducible assumption) | (with_reducible refine Below.alloc ?_ ?_ _) | (with_reducible refine Below.drew ?_) | (with_reducible refine below_drewN ?_ _) | (with_reducible refine Below.setCell ?_ ?_ _) | (with_reducible refine Below.trans ?_ (Below.mono (by assumption) ?_)) | (first | go_size | (with_reducible exact Below.size (by assumption)) | (with_reducible exact Nat.le_trans (Below.size (by assumption)) (Below.size (by assumption))) | (refine Nat.le_trans (Below.size (by assumption)) ?_; go_size))))⟩
        | true =>
          have HN : Hid (gB 1 xs g true = decide (g < 4)) := by show gB 1 xs g true = decide (g < 4); simp [gB, hw, hv]
          go_enter Tryd.func19, Tryd.ntmps19
          go_wp2_with (first | (go_at_call 9; refine (valid_yes 1 _ hv).mono ?_; rintro e w' ⟨rfl, rfl⟩) | (go_at_call 26; refine (with_any 1 _ xs n c _ ht hr hl hn).mono ?_; rintro e w' ⟨rfl, rfl⟩))
          go_ret
          exact ⟨by rw [HN.out]; rfl, by (repeat' (first | (with_reducible exact Below.refl _ _) | (with_reducible assumption) | (with_reducible refine Below.alloc ?_ ?_ _) | (with_reducible refine Below.drew ?_) | (with_reducible refine below_drewN ?_ _) | (with_reducible refine Below.setCell ?_ ?_ _) | (with_reducible refine Below.trans ?_ (Below.mono (by assumption) ?_)) | (first | go_size | (with_reducible exact Below.size (by assumption)) | (with_reducible exact Nat.le_trans (Below.size (by assumption)) (Below.size (by assumption))) | (refine Nat.le_trans (Below.size (by assumption)) ?_; go_size))))⟩
      · have hm : (m != 1) = true := by simpa using h1
        have HN : Hid (gB m xs g bh = true) := by show gB m xs g bh = true; simp [gB, hw, hv, hm]
        clear h1
        go_enter Tryd.func19, Tryd.ntmps19
        go_wp2_with (first | (go_at_call 9; refine (valid_yes m _ hv).mono ?_; rintro e w' ⟨rfl, rfl⟩) | (go_at_call 26; refine (with_any m _ xs n c _ ht hr hl hn).mono ?_; rintro e w' ⟨rfl, rfl⟩))
        go_ret
        exact ⟨by rw [HN.out]; rfl, by (repeat' (first | (with_reducible exact Below.refl _ _) | (with_reducible assumption) | (with_reducible refine Below.alloc ?_ ?_ _) | (with_reducible refine Below.drew ?_) | (with_reducible refine below_drewN ?_ _) | (with_reducible refine Below.setCell ?_ ?_ _) | (with_reducible refine Below.trans ?_ (Below.mono (by assumption) ?_)) | (first | go_size | (with_reducible exact Below.size (by assumption)) | (with_reducible exact Nat.le_trans (Below.size (by assumption)) (Below.size (by assumption))) | (refine Nat.le_trans (Below.size (by assumption)) ?_; go_size))))⟩
end Go.Proofs.YtcnbjpbohhfmoaaDoor
