/-
  Contracts of the reference of layer 6.
-/
import Derived.Test.YtcnbjpbohhfmoaaDoorModes3
namespace Go.Proofs.YtcnbjpbohhfmoaaDoor
open Go.RowKit

theorem rvalid_any (m : Int) (w : World) : Calls Tryd.prog 10 #[.int .i64 m] w fun e w' => e = .returned (.bool (vB m)) ∧ w = w' := by
  have hc : m = 1 ∨ m = 2 ∨ m = 3 ∨ (m ≠ 1 ∧ m ≠ 2 ∧ m ≠ 3) := by omega
  rcases hc with rfl | rfl | rfl | ⟨h1, h2, h3⟩
  · go_enter Tryd.func10, Tryd.ntmps10
    go_wp2
    go_ret
    exact ⟨rfl, rfl⟩
  · go_enter Tryd.func10, Tryd.ntmps10
    go_wp2
    go_ret
    exact ⟨rfl, rfl⟩
  · go_enter Tryd.func10, Tryd.ntmps10
    go_wp2
    go_ret
    exact ⟨rfl, rfl⟩
  · have hv : Hid (vB m = false) := by show vB m = false; simp [vB]; omega
    have e1 : (m == 1) = false := by simpa using h1
    have e2 : (m == 2) = false := by simpa using h2
    have e3 : (m == 3) = false := by simpa using h3
    clear h1 h2 h3
    go_enter Tryd.func10, Tryd.ntmps10
    go_wp2
    go_ret
    exact ⟨by rw [hv.out]; rfl, rfl⟩

theorem rfits_any (a b : Int) (w : World) : Calls Tryd.prog 12 #[.int .i64 a, .int .i64 b] w fun e w' => e = .returned (.bool (fB a b)) ∧ w = w' := by
  have ha : a = 1 ∨ a = 2 ∨ (a ≠ 1 ∧ a ≠ 2) := by omega
  have hb : b = 1 ∨ b = 2 ∨ (b ≠ 1 ∧ b ≠ 2) := by omega
  have HF : Hid (∀ r : Bool, fB a b = r → Ending.returned (.bool r) = .returned (.bool (fB a b))) := fun r h => by rw [h]
  rcases ha with rfl | rfl | ⟨a1, a2⟩ <;> rcases hb with rfl | rfl | ⟨b1, b2⟩
  all_goals
    first
    | (have e1 : (a == 1) = false := by simpa using a1
       have e2 : (a == 2) = false := by simpa using a2
       clear a1 a2)
    | skip
  all_goals
    first
    | (have e3 : (b == 1) = false := by simpa using b1
       have e4 : (b == 2) = false := by simpa using b2
       clear b1 b2)
    | skip
  all_goals
    go_enter Tryd.func12, Tryd.ntmps12
    go_wp2
    go_ret
    refine ⟨HF.out _ ?_, rfl⟩
    simp [fB, *]

theorem rwith_any (m : Int) (A : Option Addr) (xs : List Int) (n c : Nat) (w : World) (hr : Rd (fun _ => True) w A (ints xs)) (hl : xs.length = n) (hn : n ≤ 9223372036854775806) :
    Calls Tryd.prog 27 #[.int .i64 m, .slice A n c] w fun e w' => e = .returned (.bool (wB m xs)) ∧ w = w' := by
  subst hl
  go_enter Tryd.func27, Tryd.ntmps27
  go_wp2
  go_loop [5] (fun v => ∃ k : Nat, k ≤ xs.length ∧ v = .int .i64 k ∧ wB m (xs.take k) = true) (fun v => xs.length - (intOf v).toNat)
  case atStart => exact ⟨0, Nat.zero_le _, rfl, by simp [wB]⟩
  case round =>
    obtain ⟨k, hk, rfl, hall⟩ := hrel
    by_cases hlt : k < xs.length
    · obtain ⟨b, o, rfl, _, hbs, hcell⟩ := rd_int hr hlt
      obtain ⟨x, hx⟩ : ∃ x, x = xs.getD k 0 := ⟨_, rfl⟩
      rw [← hx] at hcell
      have hs := wB_snoc m (xs.take k) (xs.getD k 0)
      rw [← take_snoc xs k hlt, hall, ← hx] at hs
      cases hf : fB m x with
      | true =>
        have HN : Hid (wB m (xs.take (k + 1)) = true) := by show _ = true; rw [hs, hf]; rfl
        clear hs hall hx
        go_wp2_with (go_at_call 12; refine (rfits_any m x _).mono ?_; rintro e w' ⟨rfl, rfl⟩)
        go_round
        case rel => exact ⟨k + 1, by omega, by go_num, HN.out⟩
        case measure => simp [intOf]; omega
      | false =>
        have HN : Hid (wB m xs = false) := by
          show wB m xs = false
          rw [Bool.eq_false_iff]
          intro h
          have := List.all_eq_true.1 h x (by rw [hx]; simp [List.getD, List.getElem?_eq_getElem hlt])
          rw [hf] at this
          cases this
        clear hs hall hx
        go_wp2_with (go_at_call 12; refine (rfits_any m x _).mono ?_; rintro e w' ⟨rfl, rfl⟩)
        go_ret
        exact ⟨by rw [HN.out]; rfl, rfl⟩
    · obtain rfl : k = xs.length := by omega
      have HN : Hid (wB m xs = true) := by rw [List.take_length] at hall; exact hall
      clear hall
      go_wp2
      go_ret
      exact ⟨by rw [HN.out]; rfl, rfl⟩

theorem rvalid_val (m : Int) (r : Bool) (w : World) (h : vB m = r) : Calls Tryd.prog 10 #[.int .i64 m] w fun e w' => e = .returned (.bool r) ∧ w = w' := h ▸ rvalid_any m w
theorem rwith_val (m : Int) (A : Option Addr) (xs : List Int) (n c : Nat) (r : Bool) (w : World) (hr : Rd (fun _ => True) w A (ints xs)) (hl : xs.length = n) (hn : n ≤ 9223372036854775806) (h : wB m xs = r) :
    Calls Tryd.prog 27 #[.int .i64 m, .slice A n c] w fun e w' => e = .returned (.bool r) ∧ w = w' := h ▸ rwith_any m A xs n c w hr hl hn

theorem rall_any (A : Option Addr) (xs : List Int) (c : Nat) (w : World) (hr : Rd (fun _ => True) w A (ints xs)) (hc : xs.length ≤ c) (_hn : c ≤ 9223372036854775807) (hn' : xs.length ≤ 9223372036854775806) :
    Calls Tryd.prog 18 #[.slice A xs.length c] w fun e w' => e = .returned (.bool (aB xs)) ∧ Below w.heap.size w w' := by
  go_enter Tryd.func18, Tryd.ntmps18
  go_wp2
  go_loopw [3] (fun v wr => ∃ k : Nat, k ≤ xs.length ∧ v = .int .i64 k ∧ aBto xs k = true ∧ Below w.heap.size w wr) (fun v _ => xs.length - (intOf v).toNat)
  case atStart => exact ⟨0, Nat.zero_le _, rfl, rfl, Below.refl _ _⟩
  case round =>
    obtain ⟨k, hk, rfl, hall, hb⟩ := hrel
    have HA := Lib.hid hall
    clear hall
    have hr' := hr.keep (Ch.of_below hb (fun _ => False)) (fun _ _ _ e => e)
    by_cases hlt : k < xs.length
    · obtain ⟨b, o, rfl, _, hbs, hcell⟩ := rd_int hr' hlt
      have hr2 : Rd (fun _ => True) wr (some ⟨b, o, none⟩) (ints (xs.take k)) := by
        have := hr'.take k
        rwa [show (ints xs).take k = ints (xs.take k) from by simp [ints]] at this
      have hl : (xs.take k).length = k := by simp; omega
      obtain ⟨x, hx⟩ : ∃ x, x = xs.getD k 0 := ⟨_, rfl⟩
      rw [← hx] at hcell
      have HX := Lib.hid hx
      have HL := Lib.hid hl
      clear hx hl
      have i1 : (0 : Int) ≤ k := Int.natCast_nonneg _
      have i2 : (k : Int) < (xs.length : Int) := by omega
      have i3 : (k : Int) ≤ (c : Int) := by omega
      have i4 : k ≤ c := by omega
      cases hv : vB x with
      | true =>
        cases hw : wB x (xs.take k) with
        | true =>
          have HN : Hid (aBto xs (k + 1) = true) := by
            show (aBto xs k && _) = true
            rw [HA.out, ← HX.out, hv, hw]
            rfl
          go_wp2_with fail
          go_quiet ((first | (go_at_call 10; exact quiet_left (rvalid_val x _ _ hv)) | (go_at_call 27; exact quiet_left (rwith_val x _ (xs.take k) k c _ _ (hr2.drewN _) HL.out (by omega) hw))))
          go_wp2
          go_roundw
          case rel => exact ⟨k + 1, by omega, by go_num, HN.out, by (repeat' (first | (with_reducible exact Below.refl _ _) | (with_reducible assumption) | (with_reducible refine Below.alloc ?_ ?_ _) | (with_reducible refine Below.drew ?_) | (with_reducible refine below_drewN ?_ _) | (with_reducible refine Below.setCell ?_ ?_ _) | (with_reducible refine Below.trans ?_ (Below.mono (by assumption) ?_)) | (first | go_size | (with_reducible exact Below.size (by assumption)) | (with_reducible exact Nat.le_trans (Below.size (by assumption)) (Below.size (by assumption))) | (refine Nat.le_trans (Below.size (by assumption)) ?_; go_size))))⟩
          case measure => simp [intOf]; omega
        | false =>
          have HN : Hid (aB xs = false) := aB_false xs k hlt (by rw [← HX.out, hw]; simp)
          go_wp2_with fail
          go_quiet ((first | (go_at_call 10; exact quiet_left (rvalid_val x _ _ hv)) | (go_at_call 27; exact quiet_left (rwith_val x _ (xs.take k) k c _ _ (hr2.drewN _) HL.out (by omega) hw))))
          go_wp2
          go_ret
          exact ⟨by rw [HN.out]; rfl, by (repeat' (first | (with_reducible exact Below.refl _ _) | (with_reducible assumption) | (with_reducible refine Below.alloc ?_ ?_ _) | (with_reducible refine Below.drew ?_) | (with_reducible refine below_drewN ?_ _) | (with_reducible refine Below.setCell ?_ ?_ _) | (with_reducible refine Below.trans ?_ (Below.mono (by assumption) ?_)) | (first | go_size | (with_reducible exact Below.size (by assumption)) | (with_reducible exact Nat.le_trans (Below.size (by assumption)) (Below.size (by assumption))) | (refine Nat.le_trans (Below.size (by assumption)) ?_; go_size))))⟩
      | false =>
        have HN : Hid (aB xs = false) := aB_false xs k hlt (by rw [← HX.out, hv]; simp)
        go_wp2_with fail
        go_quiet ((go_at_call 10; exact quiet_left (rvalid_val x _ _ hv)))
        go_wp2
        go_ret
        exact ⟨by rw [HN.out]; rfl, by (repeat' (first | (with_reducible exact Below.refl _ _) | (with_reducible assumption) | (with_reducible refine Below.alloc ?_ ?_ _) | (with_reducible refine Below.drew ?_) | (with_reducible refine below_drewN ?_ _) | (with_reducible refine Below.setCell ?_ ?_ _) | (with_reducible refine Below.trans ?_ (Below.mono (by assumption) ?_)) | (first | go_size | (with_reducible exact Below.size (by assumption)) | (with_reducible exact Nat.le_trans (Below.size (by assumption)) (Below.size (by assumption))) | (refine Nat.le_trans (Below.size (by assumption)) ?_; go_size))))⟩
    · obtain rfl : k = xs.length := by omega
      go_wp2
      go_ret
      exact ⟨by rw [show aB xs = true from HA.out]; rfl, by (repeat' (first | (with_reducible exact Below.refl _ _) | (with_reducible assumption) | (with_reducible refine Below.alloc ?_ ?_ _) | (with_reducible refine Below.drew ?_) | (with_reducible refine below_drewN ?_ _) | (with_reducible refine Below.setCell ?_ ?_ _) | (with_reducible refine Below.trans ?_ (Below.mono (by assumption) ?_)) | (first | go_size | (with_reducible exact Below.size (by assumption)) | (with_reducible exact Nat.le_trans (Below.size (by assumption)) (Below.size (by assumption))) | (refine Nat.le_trans (Below.size (by assumption)) ?_; go_size))))⟩

theorem rgoes_any (m : Int) (A : Option Addr) (xs : List Int) (n c : Nat) (g : Int) (bh : Bool) (w : World) (hr : Rd (fun _ => True) w A (ints xs)) (hl : xs.length = n) (hn : n ≤ 9223372036854775806) :
    Calls Tryd.prog 20 #[.int .i64 m, .slice A n c, .int .i64 g, .bool bh] w fun e w' => e = .returned (.bool (gB m xs g bh)) ∧ w = w' := by
  cases hv : vB m with
  | false =>
    have HN : Hid (gB m xs g bh = false) := by show gB m xs g bh = false; simp [gB, hv]
    go_enter Tryd.func20, Tryd.ntmps20
    go_wp2_with (go_at_call 10; refine (rvalid_val m _ _ hv).mono ?_; rintro e w' ⟨rfl, rfl⟩)
    go_ret
    exact ⟨by rw [HN.out]; rfl, rfl⟩
  | true =>
    cases hw : wB m xs with
    | false =>
      have HN : Hid (gB m xs g bh = false) := by show gB m xs g bh = false; simp [gB, hw]
      go_enter Tryd.func20, Tryd.ntmps20
      go_wp2_with (first | (go_at_call 10; refine (rvalid_val m _ _ hv).mono ?_; rintro e w' ⟨rfl, rfl⟩) | (go_at_call 27; refine (rwith_val m _ xs n c _ _ hr hl hn hw).mono ?_; rintro e w' ⟨rfl, rfl⟩))
      go_ret
      exact ⟨by rw [HN.out]; rfl, rfl⟩
    | true =>
      by_cases h1 : m = 1
      · subst h1
        cases bh with
        | false =>
          have HN : Hid (gB 1 xs g false = true) := by show gB 1 xs g false = true; simp [gB, hw, hv]
          go_enter Tryd.func20, Tryd.ntmps20
          go_wp2_with (first | (go_at_call 10; refine (rvalid_val 1 _ _ hv).mono ?_; rintro e w' ⟨rfl, rfl⟩) | (go_at_call 27; refine (rwith_val 1 _ xs n c _ _ hr hl hn hw).mono ?_; rintro e w' ⟨rfl, rfl⟩))
          go_ret
          exact ⟨by rw [HN.out]; rfl, rfl⟩
        | true =>
          by_cases hg : g < 4
          · have HN : Hid (gB 1 xs g true = true) := by show gB 1 xs g true = true; simp [gB, hw, hv, hg]
            have hd : decide (4 ≤ g) = false := by simp; omega
            go_enter Tryd.func20, Tryd.ntmps20
            go_wp2_with (first | (go_at_call 10; refine (rvalid_val 1 _ _ hv).mono ?_; rintro e w' ⟨rfl, rfl⟩) | (go_at_call 27; refine (rwith_val 1 _ xs n c _ _ hr hl hn hw).mono ?_; rintro e w' ⟨rfl, rfl⟩))
            go_ret
            exact ⟨by rw [HN.out]; rfl, rfl⟩
          · have HN : Hid (gB 1 xs g true = false) := by show gB 1 xs g true = false; simp [gB, hw, hv, hg]
            have hd : decide (4 ≤ g) = true := by simp; omega
            go_enter Tryd.func20, Tryd.ntmps20
            go_wp2_with (first | (go_at_call 10; refine (rvalid_val 1 _ _ hv).mono ?_; rintro e w' ⟨rfl, rfl⟩) | (go_at_call 27; refine (rwith_val 1 _ xs n c _ _ hr hl hn hw).mono ?_; rintro e w' ⟨rfl, rfl⟩))
            go_ret
            exact ⟨by rw [HN.out]; rfl, rfl⟩
      · have hm : (m != 1) = true := by simpa using h1
        have hm2 : (m == 1) = false := by simpa using h1
        have HN : Hid (gB m xs g bh = true) := by show gB m xs g bh = true; simp [gB, hw, hv, hm]
        clear h1
        go_enter Tryd.func20, Tryd.ntmps20
        go_wp2_with (first | (go_at_call 10; refine (rvalid_val m _ _ hv).mono ?_; rintro e w' ⟨rfl, rfl⟩) | (go_at_call 27; refine (rwith_val m _ xs n c _ _ hr hl hn hw).mono ?_; rintro e w' ⟨rfl, rfl⟩))
        go_ret
        exact ⟨by rw [HN.out]; rfl, rfl⟩
end Go.Proofs.YtcnbjpbohhfmoaaDoor
