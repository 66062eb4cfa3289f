/-
  Contracts of package queue: how many threads there may be, which lists are schedules, the error of one that is none.
-/
import Derived.Test.YtbpkedghnjiehaaHeap
import Derived.Test.YtbpkedghnjiehaaQueuePure
namespace Go.Proofs.Ytbpkedghnjiehaa
open Go.RowKit

def ints (xs : List Int) : List Value := xs.map (.int .i64)
theorem ints_at (xs : List Int) (k : Nat) (h : k < xs.length) : (ints xs)[k]? = some (.int .i64 (xs.getD k 0)) := by
  simp [ints, List.getD, List.getElem?_eq_getElem h]
theorem ints_get {xs : List Int} {k : Nat} {x : Int} (h : xs[k]? = some x) : (ints xs)[k]? = some (.int .i64 x) := by simp [ints, h]
theorem ints_set (xs : List Int) (k : Nat) (x : Int) : (ints xs).set k (.int .i64 x) = ints (xs.set k x) := by simp [ints, List.map_set]
theorem ints_length (xs : List Int) : (ints xs).length = xs.length := by simp [ints]
theorem rd_int {G : Nat → Prop} {w : World} {A : Option Addr} {xs : List Int} (h : Rd G w A (ints xs)) {k : Nat} (hk : k < xs.length) :
    ∃ b o, A = some ⟨b, o, none⟩ ∧ G b ∧ b < w.heap.size ∧ w.cell? ⟨b, o + k, none⟩ = some (.int .i64 (xs.getD k 0)) := by
  obtain ⟨b, o, e, hg, hl, hv⟩ := h (by intro e; have := ints_at xs k hk; rw [e] at this; cases this)
  exact ⟨b, o, e, hg, hl, hv k _ (ints_at xs k hk)⟩

theorem some_any (n : Int) (w : World) : Calls Try.prog 36 #[.int .i64 n] w fun e w' => e = .returned (.bool (thrB n)) ∧ w = w' := by
  by_cases h1 : n < 1
  · have hv : thrB n = false := by simp [thrB]; omega
    go_enter Try.func36, Try.ntmps36
    go_wp2
    go_ret
    exact ⟨rfl, rfl⟩
  by_cases h2 : 64 < n
  · have hv : thrB n = false := by simp [thrB]; omega
    have hd : decide (n ≤ 64) = false := by simp; omega
    go_enter Try.func36, Try.ntmps36
    go_wp2
    go_ret
    exact ⟨rfl, rfl⟩
  · have hv : thrB n = true := by simp [thrB]; omega
    have hd : decide (n ≤ 64) = true := by simp; omega
    go_enter Try.func36, Try.ntmps36
    go_wp2
    go_ret
    exact ⟨rfl, rfl⟩
theorem some_yes (n : Int) (w : World) (h : thrB n = true) : Calls Try.prog 36 #[.int .i64 n] w fun e w' => e = .returned (.bool true) ∧ w = w' := h ▸ some_any n w
theorem some_no (n : Int) (w : World) (h : thrB n = false) : Calls Try.prog 36 #[.int .i64 n] w fun e w' => e = .returned (.bool false) ∧ w = w' := h ▸ some_any n w

/-- the closure of 'Valid': whether a number is no thread -/
theorem qlit_any (g : Nat) (n t : Int) (w : World) (hm : w.cell? ⟨g, 0, none⟩ = some (.int .i64 n)) :
    Calls Try.prog 38 #[.int .i64 t, .pointer (some ⟨g, 0, none⟩)] w fun e w' => e = .returned (.bool (!inB n t)) ∧ w = w' := by
  by_cases h1 : t < 0
  · have hv : inB n t = false := by simp [inB]; omega
    go_enter Try.func38, Try.ntmps38
    go_wp2
    go_ret
    exact ⟨by first | rfl | (rw [hv]; rfl), rfl⟩
  by_cases h2 : n ≤ t
  · have hv : inB n t = false := by simp [inB]; omega
    go_enter Try.func38, Try.ntmps38
    go_wp2
    go_ret
    exact ⟨by first | rfl | (rw [hv]; rfl), rfl⟩
  · have hv : inB n t = true := by simp [inB]; omega
    have hd : decide (n ≤ t) = false := decide_eq_false h2
    go_enter Try.func38, Try.ntmps38
    go_wp2
    go_ret
    exact ⟨by first | rfl | (rw [hv]; rfl), rfl⟩

abbrev lit (g : Nat) : Value := .func (.func 38) #[] #[.pointer (some ⟨g, 0, none⟩)]
theorem index_any (g : Nat) (n : Int) (A : Option Addr) (xs : List Int) (c : Nat) (w : World) (hm : w.cell? ⟨g, 0, none⟩ = some (.int .i64 n)) (hr : Rd (fun _ => True) w A (ints xs)) (hn : xs.length ≤ 9223372036854775806) :
    Calls Try.prog 47 #[.slice A xs.length c, lit g] w fun e w' => e = .returned (.int .i64 (idxOf (fun o => !inB n o) xs)) ∧ w = w' := by
  go_enter Try.func47, Try.ntmps47
  go_wp2
  go_loop [8] (fun v => ∃ k : Nat, k ≤ xs.length ∧ v = .int .i64 k ∧ ∀ j, j < k → (!inB n (xs.getD j 0)) = false) (fun v => xs.length - (intOf v).toNat)
  case atStart => exact ⟨0, Nat.zero_le _, rfl, fun _ h => by omega⟩
  case round =>
    obtain ⟨k, hk, rfl, hall⟩ := hrel
    have HA := Lib.hid hall
    clear hall
    by_cases hlt : k < xs.length
    · obtain ⟨b, o, rfl, _, hb, hc⟩ := rd_int hr hlt
      obtain ⟨x, hx⟩ : ∃ x, x = xs.getD k 0 := ⟨_, rfl⟩
      rw [← hx] at hc
      by_cases hf : (!inB n x) = true
      · have hi := idx_hit (fun o => !inB n o) xs k hlt HA.out (by rw [← hx]; exact hf)
        have HI := Lib.hid hi
        clear hi hx
        go_wp2_with (go_at_call 38; refine (qlit_any g n _ _ hm).mono ?_; rintro e w' ⟨rfl, rfl⟩)
        go_ret
        exact ⟨by rw [HI.out]; rfl, rfl⟩
      · have hf' : (!inB n x) = false := by simpa using hf
        have HN : Hid (∀ j, j < k + 1 → (!inB n (xs.getD j 0)) = false) := fun j hj => by
          by_cases e : j = k
          · rw [e, ← hx]; exact hf'
          · exact HA.out j (by omega)
        clear hx hf
        go_wp2_with (go_at_call 38; refine (qlit_any g n _ _ hm).mono ?_; rintro e w' ⟨rfl, rfl⟩)
        go_round
        case rel => exact ⟨k + 1, by omega, by go_num, HN.out⟩
        case measure => simp [intOf]; omega
    · obtain rfl : k = xs.length := by omega
      have HI := Lib.hid (idx_none (fun o => !inB n o) xs HA.out)
      go_wp2
      go_ret
      exact ⟨by rw [HI.out]; rfl, rfl⟩

theorem not_any_not (n : Int) (xs : List Int) : (!xs.any fun o => !inB n o) = xs.all (inB n) := by
  induction xs with
  | nil => rfl
  | cons x xs ih => simp only [List.any_cons, List.all_cons, Bool.not_or, Bool.not_not, ih]
theorem valid_any (A : Option Addr) (xs : List Int) (k c : Nat) (n : Int) (w : World) (hr : Rd (fun _ => True) w A (ints xs)) (hl : xs.length = k) (hn : k ≤ 9223372036854775806) :
    Calls Try.prog 14 #[.slice A k c, .int .i64 n] w fun e w' => e = .returned (.bool (validB xs n)) ∧ w.alloc (.cells #[.int .i64 n] 3) = w' := by
  subst hl
  have hb := idx_any (fun o => !inB n o) xs
  have hw := not_any_not n xs
  rw [← hb] at hw
  have HW := Lib.hid hw
  clear hb hw
  cases ht : thrB n with
  | false =>
    have HV : Hid (validB xs n = false) := (show validB xs n = false from by simp [validB, ht])
    go_enter Try.func14, Try.ntmps14
    go_wp2_with (go_at_call 36; refine (some_no _ _ ht).mono ?_; rintro e w' ⟨rfl, rfl⟩)
    go_ret
    exact ⟨by rw [HV.out]; rfl, rfl⟩
  | true =>
    by_cases h1 : 100000 < xs.length
    · have HV : Hid (validB xs n = false) := (show validB xs n = false from by unfold validB; rw [decide_eq_false (by omega)]; simp)
      have d1 : decide ((xs.length : Int) ≤ 100000) = false := decide_eq_false (by omega)
      go_enter Try.func14, Try.ntmps14
      go_wp2_with (go_at_call 36; refine (some_yes _ _ ht).mono ?_; rintro e w' ⟨rfl, rfl⟩)
      go_ret
      exact ⟨by rw [HV.out]; rfl, rfl⟩
    · have HV : Hid (validB xs n = xs.all (inB n)) := (show validB xs n = _ from by unfold validB; rw [decide_eq_true (by omega), ht]; simp)
      have d1 : decide ((xs.length : Int) ≤ 100000) = true := decide_eq_true (by omega)
      go_enter Try.func14, Try.ntmps14
      go_wp2_with (first | (go_at_call 36; refine (some_yes _ _ ht).mono ?_; rintro e w' ⟨rfl, rfl⟩) | (go_at_call 47; refine (index_any _ n A xs c _ (by go_cell) (hr.keep ((Ch.refl (fun _ => False) _).alloc _) (fun _ _ _ e => e)) hn).mono ?_; rintro e w' ⟨rfl, rfl⟩) | (go_at_call 37; go_in))
      go_ret
      exact ⟨by rw [HV.out, ← HW.out]; rfl, rfl⟩
theorem wrong_any (A : Option Addr) (xs : List Int) (k c : Nat) (n : Int) (w : World) (hr : Rd (fun _ => True) w A (ints xs)) (hl : xs.length = k) (hn : k ≤ 9223372036854775806) :
    Calls Try.prog 44 #[.slice A k c, .int .i64 n] w fun e w' => e = .returned (.int .i64 (wrongE xs n)) ∧ Below w.heap.size w w' := by
  have hv := fun W hR => valid_any A xs k c n W hR hl hn
  subst hl
  cases ht : thrB n with
  | false =>
    have HV : Hid (wrongE xs n = 2) := (show wrongE xs n = 2 from by simp [wrongE, ht])
    clear hv
    go_enter Try.func44, Try.ntmps44
    go_wp2_with (go_at_call 36; refine (some_no _ _ ht).mono ?_; rintro e w' ⟨rfl, rfl⟩)
    go_ret
    exact ⟨by rw [HV.out]; rfl, by (repeat' (first | (with_reducible exact Below.refl _ _) | (with_reducible assumption) | (with_reducible refine Below.alloc ?_ ?_ _) | (with_reducible refine Below.drew ?_) | (with_reducible refine below_drewN ?_ _) | (with_reducible refine Below.setCell ?_ ?_ _) | (with_reducible refine Below.trans ?_ (Below.mono (by assumption) ?_)) | (first | go_size | (with_reducible exact Below.size (by assumption)) | (with_reducible exact Nat.le_trans (Below.size (by assumption)) (Below.size (by assumption))) | (refine Nat.le_trans (Below.size (by assumption)) ?_; go_size))))⟩
  | true =>
    by_cases h1 : 100000 < xs.length
    · have HV : Hid (wrongE xs n = 5) := (show wrongE xs n = 5 from by simp [wrongE, ht, h1])
      have d1 : decide (100000 < (xs.length : Int)) = true := decide_eq_true (by omega)
      clear hv
      go_enter Try.func44, Try.ntmps44
      go_wp2_with (go_at_call 36; refine (some_yes _ _ ht).mono ?_; rintro e w' ⟨rfl, rfl⟩)
      go_ret
      exact ⟨by rw [HV.out]; rfl, by (repeat' (first | (with_reducible exact Below.refl _ _) | (with_reducible assumption) | (with_reducible refine Below.alloc ?_ ?_ _) | (with_reducible refine Below.drew ?_) | (with_reducible refine below_drewN ?_ _) | (with_reducible refine Below.setCell ?_ ?_ _) | (with_reducible refine Below.trans ?_ (Below.mono (by assumption) ?_)) | (first | go_size | (with_reducible exact Below.size (by assumption)) | (with_reducible exact Nat.le_trans (Below.size (by assumption)) (Below.size (by assumption))) | (refine Nat.le_trans (Below.size (by assumption)) ?_; go_size))))⟩
    · have hvb : validB xs n = xs.all (inB n) := by unfold validB; rw [decide_eq_true (by omega), ht]; simp
      have d1 : decide (100000 < (xs.length : Int)) = false := decide_eq_false (by omega)
      rw [hvb] at hv
      cases ha : xs.all (inB n) with
      | true =>
        have HV : Hid (wrongE xs n = 0) := (show wrongE xs n = 0 from by unfold wrongE; rw [if_neg (by rw [ht]; simp), if_neg h1, if_pos ha])
        rw [ha] at hv
        clear hvb
        go_enter Try.func44, Try.ntmps44
        go_wp2_with (first | (go_at_call 36; refine (some_yes _ _ ht).mono ?_; rintro e w' ⟨rfl, rfl⟩) | (go_at_call 14; refine (hv _ hr).mono ?_; rintro e w' ⟨rfl, rfl⟩))
        go_ret
        exact ⟨by rw [HV.out]; rfl, by (repeat' (first | (with_reducible exact Below.refl _ _) | (with_reducible assumption) | (with_reducible refine Below.alloc ?_ ?_ _) | (with_reducible refine Below.drew ?_) | (with_reducible refine below_drewN ?_ _) | (with_reducible refine Below.setCell ?_ ?_ _) | (with_reducible refine Below.trans ?_ (Below.mono (by assumption) ?_)) | (first | go_size | (with_reducible exact Below.size (by assumption)) | (with_reducible exact Nat.le_trans (Below.size (by assumption)) (Below.size (by assumption))) | (refine Nat.le_trans (Below.size (by assumption)) ?_; go_size))))⟩
      | false =>
        have HV : Hid (wrongE xs n = 2) := (show wrongE xs n = 2 from by unfold wrongE; rw [if_neg (by rw [ht]; simp), if_neg h1, if_neg (by rw [ha]; simp)])
        rw [ha] at hv
        clear hvb
        go_enter Try.func44, Try.ntmps44
        go_wp2_with (first | (go_at_call 36; refine (some_yes _ _ ht).mono ?_; rintro e w' ⟨rfl, rfl⟩) | (go_at_call 14; refine (hv _ hr).mono ?_; rintro e w' ⟨rfl, rfl⟩))
        go_ret
        exact ⟨by rw [HV.out]; rfl, by (repeat' (first | (with_reducible exact Below.refl _ _) | (with_reducible assumption) | (with_reducible refine Below.alloc ?_ ?_ _) | (with_reducible refine Below.drew ?_) | (with_reducible refine below_drewN ?_ _) | (with_reducible refine Below.setCell ?_ ?_ _) | (with_reducible refine Below.trans ?_ (Below.mono (by assumption) ?_)) | (first | go_size | (with_reducible exact Below.size (by assumption)) | (with_reducible exact Nat.le_trans (Below.size (by assumption)) (Below.size (by assumption))) | (refine Nat.le_trans (Below.size (by assumption)) ?_; go_size))))⟩
end Go.Proofs.Ytbpkedghnjiehaa
