/-
  Contracts of the reference of queue, first part: which lists are schedules, how often, which windows.
-/
import Derived.Test.YtbpkedghnjiehaaQueue3
namespace Go.Proofs.Ytbpkedghnjiehaa
open Go.RowKit

theorem rthr_any (n : Int) (w : World) : Calls Try.prog 11 #[.int .i64 n] w fun e w' => e = .returned (.bool (thrB n)) ∧ w = w' := by
  by_cases h1 : n < 1
  · have hv : thrB n = false := by simp [thrB]; omega
    have d1 : decide (0 < n) = false := decide_eq_false (by omega)
    clear h1
    go_enter Try.func11, Try.ntmps11
    go_wp2
    go_ret
    exact ⟨by first | rfl | (rw [hv]; rfl), rfl⟩
  have d1 : decide (0 < n) = true := decide_eq_true (by omega)
  by_cases h2 : 64 < n
  · have hv : thrB n = false := by simp [thrB]; omega
    have hd : decide (n ≤ 64) = false := by simp; omega
    clear h1 h2
    go_enter Try.func11, Try.ntmps11
    go_wp2
    go_ret
    exact ⟨by first | rfl | (rw [hv]; rfl), rfl⟩
  · have hv : thrB n = true := by simp [thrB]; omega
    have hd : decide (n ≤ 64) = true := by simp; omega
    clear h1 h2
    go_enter Try.func11, Try.ntmps11
    go_wp2
    go_ret
    exact ⟨by first | rfl | (rw [hv]; rfl), rfl⟩
theorem rthr_yes (n : Int) (w : World) (h : thrB n = true) : Calls Try.prog 11 #[.int .i64 n] w fun e w' => e = .returned (.bool true) ∧ w = w' := h ▸ rthr_any n w
theorem rthr_no (n : Int) (w : World) (h : thrB n = false) : Calls Try.prog 11 #[.int .i64 n] w fun e w' => e = .returned (.bool false) ∧ w = w' := h ▸ rthr_any n w

theorem all_snoc (xs : List Int) (k : Nat) (h : k < xs.length) (p : Int → Bool) : (xs.take (k + 1)).all p = ((xs.take k).all p && p (xs.getD k 0)) := by
  rw [qtake_snoc xs k h, List.all_append]; simp
theorem all_false (xs : List Int) (k : Nat) (h : k < xs.length) (p : Int → Bool) (hp : p (xs.getD k 0) = false) : xs.all p = false := by
  rw [List.all_eq_false]
  exact ⟨_, getD_mem h, by rw [hp]; simp⟩
theorem rvalid_any (A : Option Addr) (xs : List Int) (m c : Nat) (n : Int) (w : World) (hr : Rd (fun _ => True) w A (ints xs)) (hl : xs.length = m) (hn : m ≤ 9223372036854775806) (hmc : m ≤ c) :
    Calls Try.prog 15 #[.slice A m c, .int .i64 n] w fun e w' => e = .returned (.bool (validB xs n)) ∧ w = w' := by
  subst hl
  cases ht : thrB n with
  | false =>
    have HV : Hid (validB xs n = false) := (show validB xs n = false from by simp [validB, ht])
    go_enter Try.func15, Try.ntmps15
    go_wp2_with (go_at_call 11; refine (rthr_no _ _ ht).mono ?_; rintro e w' ⟨rfl, rfl⟩)
    go_ret
    exact ⟨by rw [HV.out]; rfl, rfl⟩
  | true =>
    by_cases h1 : 100000 < xs.length
    · have HV : Hid (validB xs n = false) := (show validB xs n = false from by unfold validB; rw [decide_eq_false (by omega)]; simp)
      have d1 : decide (100000 < (xs.length : Int)) = true := decide_eq_true (by omega)
      go_enter Try.func15, Try.ntmps15
      go_wp2_with (go_at_call 11; refine (rthr_yes _ _ ht).mono ?_; rintro e w' ⟨rfl, rfl⟩)
      go_ret
      exact ⟨by rw [HV.out]; rfl, rfl⟩
    · have HV : Hid (validB xs n = xs.all (inB n)) := (show validB xs n = _ from by unfold validB; rw [decide_eq_true (by omega), ht]; simp)
      have d1 : decide (100000 < (xs.length : Int)) = false := decide_eq_false (by omega)
      go_enter Try.func15, Try.ntmps15
      go_wp2_with (go_at_call 11; refine (rthr_yes _ _ ht).mono ?_; rintro e w' ⟨rfl, rfl⟩)
      go_loop [5] (fun v => ∃ k : Nat, k ≤ xs.length ∧ v = .int .i64 k ∧ (xs.take k).all (inB n) = true) (fun v => xs.length - (intOf v).toNat)
      case atStart => exact ⟨0, Nat.zero_le _, rfl, by simp⟩
      case round =>
        obtain ⟨k, hk, rfl, hall⟩ := hrel
        have HA := Lib.hid hall
        clear hall
        by_cases hlt : k < xs.length
        · obtain ⟨b, o, rfl, _, hb, hc⟩ := rd_int hr hlt
          obtain ⟨x, hx⟩ : ∃ x, x = xs.getD k 0 := ⟨_, rfl⟩
          have i1 : (0 : Int) ≤ k := Int.natCast_nonneg _
          have i2 : (k : Int) < xs.length := by omega
          have i3 : (k : Int) < c := by omega
          by_cases h2 : x < 0
          · have hfin := all_false xs k hlt (inB n) (by rw [← hx]; simp [inB]; omega)
            rw [← hx] at hc
            have HF := Lib.hid hfin
            have e1 : decide (x < 0) = true := decide_eq_true h2
            clear hx hfin
            go_wp2
            go_ret
            exact ⟨by rw [HV.out, HF.out]; rfl, rfl⟩
          · have e1 : decide (x < 0) = false := decide_eq_false h2
            by_cases h3 : n ≤ x
            · have hfin := all_false xs k hlt (inB n) (by rw [← hx]; simp [inB]; omega)
              rw [← hx] at hc
              have HF := Lib.hid hfin
              have e2 : decide (n ≤ x) = true := decide_eq_true h3
              clear hx hfin
              go_wp2
              go_ret
              exact ⟨by rw [HV.out, HF.out]; rfl, rfl⟩
            · have hfin : (xs.take (k + 1)).all (inB n) = true := by rw [all_snoc xs k hlt, HA.out, ← hx]; simp [inB]; omega
              rw [← hx] at hc
              have HF := Lib.hid hfin
              have e2 : decide (n ≤ x) = false := decide_eq_false h3
              clear hx hfin
              go_wp2
              go_round
              case rel => exact ⟨k + 1, by omega, by go_num, HF.out⟩
              case measure => simp [intOf]; omega
        · obtain rfl : k = xs.length := by omega
          have hfin := HA.out
          rw [List.take_length] at hfin
          have HF := Lib.hid hfin
          clear hfin
          go_wp2
          go_ret
          exact ⟨by rw [HV.out, HF.out]; rfl, rfl⟩
theorem rwrong_any (A : Option Addr) (xs : List Int) (m c : Nat) (n : Int) (w : World) (hr : Rd (fun _ => True) w A (ints xs)) (hl : xs.length = m) (hn : m ≤ 9223372036854775806) (hmc : m ≤ c) :
    Calls Try.prog 16 #[.slice A m c, .int .i64 n] w fun e w' => e = .returned (.int .i64 (wrongE xs n)) ∧ w = w' := by
  have hv := rvalid_any A xs m c n w hr hl hn hmc
  subst hl
  cases ht : thrB n with
  | false =>
    have HV : Hid (wrongE xs n = 2) := (show wrongE xs n = 2 from by simp [wrongE, ht])
    rw [show validB xs n = false from by simp [validB, ht]] at hv
    go_enter Try.func16, Try.ntmps16
    go_wp2_with (first | (go_at_call 11; refine (rthr_no _ _ ht).mono ?_; rintro e w' ⟨rfl, rfl⟩) | (go_at_call 15; refine hv.mono ?_; rintro e w' ⟨rfl, rfl⟩))
    go_ret
    exact ⟨by rw [HV.out]; rfl, rfl⟩
  | true =>
    by_cases h1 : 100000 < xs.length
    · have HV : Hid (wrongE xs n = 5) := (show wrongE xs n = 5 from by simp [wrongE, ht, h1])
      have d1 : decide (100000 < (xs.length : Int)) = true := decide_eq_true (by omega)
      clear hv
      go_enter Try.func16, Try.ntmps16
      go_wp2_with (go_at_call 11; refine (rthr_yes _ _ ht).mono ?_; rintro e w' ⟨rfl, rfl⟩)
      go_ret
      exact ⟨by rw [HV.out]; rfl, rfl⟩
    · have hvb : validB xs n = xs.all (inB n) := by unfold validB; rw [decide_eq_true (by omega), ht]; simp
      have d1 : decide (100000 < (xs.length : Int)) = false := decide_eq_false (by omega)
      rw [hvb] at hv
      have HV : Hid (wrongE xs n = if xs.all (inB n) then 0 else 2) := (show wrongE xs n = _ from by unfold wrongE; rw [if_neg (by rw [ht]; simp), if_neg h1])
      clear hvb
      cases ha : xs.all (inB n)
      all_goals
        rw [ha] at hv HV
        go_enter Try.func16, Try.ntmps16
        go_wp2_with (first | (go_at_call 11; refine (rthr_yes _ _ ht).mono ?_; rintro e w' ⟨rfl, rfl⟩) | (go_at_call 15; refine hv.mono ?_; rintro e w' ⟨rfl, rfl⟩))
        go_ret
        exact ⟨by rw [HV.out]; rfl, rfl⟩

/-! ### how often -/
theorem rcount_any (A : Option Addr) (xs : List Int) (m c : Nat) (t : Int) (w : World) (hr : Rd (fun _ => True) w A (ints xs)) (hl : xs.length = m) (hn : m ≤ 100000) (hmc : m ≤ c) :
    Calls Try.prog 40 #[.slice A m c, .int .i64 t] w fun e w' => e = .returned (.int .i64 (cnt xs t)) ∧ w = w' := by
  subst hl
  go_enter Try.func40, Try.ntmps40
  go_wp2
  go_loop [5, 6] (fun v5 v => ∃ k : Nat, k ≤ xs.length ∧ v = .int .i64 k ∧ v5 = .int .i64 (cnt (xs.take k) t : Int)) (fun _ v => xs.length - (intOf v).toNat)
  case atStart => exact ⟨0, Nat.zero_le _, rfl, rfl⟩
  case round =>
    obtain ⟨k, hk, rfl, rfl⟩ := hrel
    have hcl := cnt_le (xs.take k) t
    have hcl2 : (xs.take k).length ≤ k := List.length_take_le _ _
    by_cases hlt : k < xs.length
    · obtain ⟨b, o, rfl, _, hb, hc⟩ := rd_int hr hlt
      have hs := cnt_snoc xs k hlt t
      obtain ⟨x, hx⟩ : ∃ x, x = xs.getD k 0 := ⟨_, rfl⟩
      rw [← hx] at hc hs
      have i1 : (0 : Int) ≤ k := Int.natCast_nonneg _
      have i2 : (k : Int) < xs.length := by omega
      have i3 : (k : Int) < c := by omega
      generalize cnt (xs.take k) t = q at *
      have HS := Lib.hid hs
      clear hx hs
      by_cases e : x = t
      · have e1 : (x == t) = true := by rw [beq_iff_eq]; exact e
        have HE := Lib.hid e
        clear e
        go_wp2
        go_round
        case rel => exact ⟨k + 1, by omega, by go_num, by rw [HS.out, if_pos HE.out]; go_num⟩
        case measure => simp [intOf]; omega
      · have e1 : (x == t) = false := by rw [beq_eq_false_iff_ne]; exact e
        have HE := Lib.hid e
        clear e
        go_wp2
        go_round
        case rel => exact ⟨k + 1, by omega, by go_num, by rw [HS.out, if_neg HE.out]; rfl⟩
        case measure => simp [intOf]; omega
    · obtain rfl : k = xs.length := by omega
      go_wp2
      go_ret
      exact ⟨rfl, rfl⟩
theorem cntL_snocN (xs : List Int) (k : Nat) : cntL xs (k + 1) = cntL xs k ++ [(cnt xs (k : Nat) : Int)] := by simp [cntL, List.range_succ]
def CntP (w : World) (xs : List Int) (n : Nat) (e : Ending) (w' : World) : Prop :=
  ∃ A c, e = .returned (.slice A n c) ∧ Rd (fun b => w.heap.size ≤ b) w' A (ints (cntL xs n)) ∧ n ≤ c ∧ c ≤ 9223372036854775807 ∧ (A = none → c = 0) ∧ Below w.heap.size w w'
set_option maxHeartbeats 400000 in
theorem rcounts_any (A : Option Addr) (xs : List Int) (m c n : Nat) (w : World) (hr : Rd (fun _ => True) w A (ints xs)) (hl : xs.length = m) (hm : m ≤ 100000) (hmc : m ≤ c) (hn : n ≤ 1000) :
    Calls Try.prog 20 #[.slice A m c, .int .i64 n] w (CntP w xs n) := by
  obtain ⟨i0, hi0, hz0, hz1, hz2⟩ := info_parts intInfo
  have hcn := fun t W hR => rcount_any A xs m c t W hR hl hm hmc
  have hle := fun t => cnt_le xs t
  go_enter Try.func20, Try.ntmps20
  go_wp2_with fail
  go_loopw [5, 6] (fun v5 v wr => ∃ k : Nat, k ≤ n ∧ v = .int .i64 k ∧ wr.ownsRow w.heap.size 3 1 v5 k (ints (cntL xs k)) ∧ Below w.heap.size w wr) (fun _ v _ => n - (intOf v).toNat)
  case atStart => exact ⟨0, Nat.zero_le _, rfl, own_none _ _ _ _, Below.refl _ _⟩
  case round =>
    obtain ⟨k, hk, rfl, hown, hb⟩ := hrel
    by_cases hlt : k < n
    · have hbr := Below.refl wr.heap.size wr
      have hbz := hb.size
      have HR := Lib.hid (cntL_snocN xs k)
      have hck := hcn k wr (hr.keep (Ch.of_below hb (fun _ => False)) (fun _ _ _ e => e))
      generalize cnt xs (k : Nat) = q at *
      go_wp2_with fail
      refine hck.mono ?_
      rintro e w' ⟨rfl, rfl⟩
      go_wp2_with ((at_builtin; refine wpList_append_rd _ rfl _ _ _ rfl w.heap.size 3 i0 _ 1 8 Try.underlying28 hi0 hz0 hz1 hz2 rfl (by omega) _ _ _ rfl (own_keep (own_keep hown (Ch.of_below hbr (fun _ => False)) (fun _ _ _ e => e)) ((Ch.refl (fun _ => False) _).alloc _) (fun _ _ _ e => e)) (some ⟨_, 0, none⟩) 1 1 [.int .i64 (q : Int)] rfl (Rd.of_blk (G := fun _ => True) (Blk.new _ _ [.int .i64 (q : Int)]) (List.prefix_refl _) trivial) (fun h => by cases h) rfl (by simp [Value.oneCell']) (by unfold maxLen; omega) (by omega) (by have := Below.size hbr; simp; omega) ?_))
      intro v3 w3 hown3 hch3 hat3
      have hb3 : Below w.heap.size w w3 := (hb.alloc hb.size _).trans (hch3.below (fun j hj e => ownBlock_ge hown e) (by have := hb.size; simp; omega))
      have hown4 : w3.ownsRow w.heap.size 3 1 v3 (k + 1) (ints (cntL xs (k + 1))) := by rw [HR.out]; simpa [ints] using hown3
      clear hch3 hat3 hown hown3
      go_wp2
      go_roundw
      case rel => exact ⟨k + 1, by omega, by go_num, hown4, hb3⟩
      case measure => simp [intOf]; omega
    · obtain rfl : k = n := by omega
      obtain ⟨A', c', rfl, g1, g2⟩ := own_slice hown
      go_wp2
      go_ret
      exact ⟨A', c', rfl, (Rd.of_own hown).mono (fun _ _ h => h.1), g1, own_cap hown, g2, hb⟩

/-! ### windows -/
theorem rall_yes (A : Option Addr) (xs : List Int) (m c n : Nat) (w : World) (hr : Rd (fun _ => True) w A (ints xs)) (hl : xs.length = m) (hm : m ≤ 100000) (hmc : m ≤ c) (hn : n ≤ 1000) (h : ∀ t : Nat, t < n → cnt xs t ≠ 0) :
    Calls Try.prog 41 #[.slice A m c, .int .i64 n] w fun e w' => e = .returned (.bool true) ∧ w = w' := by
  have hcn := fun t W hR => rcount_any A xs m c t W hR hl hm hmc
  have H := Lib.hid h
  clear h
  go_enter Try.func41, Try.ntmps41
  go_wp2_with fail
  go_loopw [5] (fun v wr => ∃ k : Nat, k ≤ n ∧ v = .int .i64 k ∧ w = wr) (fun v _ => n - (intOf v).toNat)
  case atStart => exact ⟨0, Nat.zero_le _, rfl, rfl⟩
  case round =>
    obtain ⟨k, hk, rfl, rfl⟩ := hrel
    by_cases hlt : k < n
    · have hck := hcn k w hr
      have h0 := H.out k hlt
      generalize cnt xs (k : Nat) = q at *
      have e1 : ((q : Int) == 0) = false := by rw [beq_eq_false_iff_ne]; omega
      clear h0
      go_wp2_with fail
      refine hck.mono ?_
      rintro e w' ⟨rfl, rfl⟩
      go_wp2
      go_roundw
      case rel => exact ⟨k + 1, by omega, by go_num, by first | rfl | trivial⟩
      case measure => simp [intOf]; omega
    · obtain rfl : k = n := by omega
      go_wp2
      go_ret
      exact ⟨rfl, rfl⟩
theorem rall_no (A : Option Addr) (xs : List Int) (m c n : Nat) (w : World) (hr : Rd (fun _ => True) w A (ints xs)) (hl : xs.length = m) (hm : m ≤ 100000) (hmc : m ≤ c) (hn : n ≤ 1000) (h : ∃ t : Nat, t < n ∧ cnt xs t = 0) :
    Calls Try.prog 41 #[.slice A m c, .int .i64 n] w fun e w' => e = .returned (.bool false) ∧ w = w' := by
  have hcn := fun t W hR => rcount_any A xs m c t W hR hl hm hmc
  obtain ⟨T, hT, h0⟩ := h
  have H0 := Lib.hid h0
  clear h0
  go_enter Try.func41, Try.ntmps41
  go_wp2_with fail
  go_loopw [5] (fun v wr => ∃ k : Nat, k ≤ T ∧ v = .int .i64 k ∧ w = wr) (fun v _ => n - (intOf v).toNat)
  case atStart => exact ⟨0, Nat.zero_le _, rfl, rfl⟩
  case round =>
    obtain ⟨k, hk, rfl, rfl⟩ := hrel
    have hlt : k < n := by omega
    have hck := hcn k w hr
    by_cases h0 : cnt xs k = 0
    · generalize cnt xs (k : Nat) = q at *
      have e1 : ((q : Int) == 0) = true := by rw [beq_iff_eq]; omega
      clear h0
      go_wp2_with fail
      refine hck.mono ?_
      rintro e w' ⟨rfl, rfl⟩
      go_wp2
      go_ret
      exact ⟨rfl, rfl⟩
    · have hkT : k ≠ T := by rintro rfl; exact h0 H0.out
      generalize cnt xs (k : Nat) = q at *
      have e1 : ((q : Int) == 0) = false := by rw [beq_eq_false_iff_ne]; omega
      clear h0
      go_wp2_with fail
      refine hck.mono ?_
      rintro e w' ⟨rfl, rfl⟩
      go_wp2
      go_roundw
      case rel => exact ⟨k + 1, by omega, by go_num, by first | rfl | trivial⟩
      case measure => simp [intOf]; omega
end Go.Proofs.Ytbpkedghnjiehaa
