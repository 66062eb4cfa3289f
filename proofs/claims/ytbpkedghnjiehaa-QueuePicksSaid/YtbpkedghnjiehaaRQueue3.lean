/-
  Contracts of the reference of queue, third part: ages, who comes first, the next pick.
-/
import Derived.Test.YtbpkedghnjiehaaRQueue2
import Derived.Test.YtbpkedghnjiehaaQueueSort
import Derived.IntWalk
import Derived.Deep.DeepCutAuto
namespace Go.Proofs.Ytbpkedghnjiehaa
open Go.RowKit

theorem rage_any (A : Option Addr) (xs : List Int) (m c : Nat) (t : Int) (w : World) (hr : Rd (fun _ => True) w A (ints xs)) (hl : xs.length = m) (hn : m ≤ 100000) (hmc : m ≤ c) :
    Calls Try.prog 33 #[.slice A m c, .int .i64 t] w fun e w' => e = .returned (.int .i64 (ageI xs t)) ∧ w = w' := by
  subst hl
  go_enter Try.func33, Try.ntmps33
  go_wp2_with fail
  go_loop [5, 6] (fun v5 v6 => ∃ k : Nat, k ≤ xs.length ∧ v5 = .int .i64 ((xs.length - k : Nat) : Int) ∧ v6 = .int .i64 ((k : Int) - 1) ∧ ∀ j, k ≤ j → j < xs.length → xs.getD j 0 ≠ t) (fun _ v => ((intOf v) + 1).toNat)
  case atStart => exact ⟨xs.length, Nat.le_refl _, by simp, rfl, fun j h1 h2 => by omega⟩
  case round =>
    obtain ⟨k, hk, rfl, hv6, hall⟩ := hrel
    have HA := Lib.hid hall
    clear hall
    rcases k with _ | k
    · rw [show ((0 : Nat) : Int) - 1 = -1 by omega] at hv6
      subst hv6
      have hfin := age_at xs t xs.length (Nat.le_refl _) (fun j _ hj => HA.out j (by omega) hj) (.inl rfl)
      have HF := Lib.hid hfin
      clear hfin
      go_wp2_with fail
      go_ret
      exact ⟨by rw [HF.out]; rfl, rfl⟩
    · rw [show ((k + 1 : Nat) : Int) - 1 = (k : Int) by omega] at hv6
      subst hv6
      obtain ⟨b, o, rfl, _, hb, hc⟩ := rd_int hr (show k < xs.length by omega)
      obtain ⟨x, hx⟩ : ∃ x, x = xs.getD k 0 := ⟨_, rfl⟩
      have i1 : (0 : Int) ≤ k := Int.natCast_nonneg _
      have i2 : (k : Int) < xs.length := by omega
      have i3 : (k : Int) < c := by omega
      have d1 : decide ((0 : Int) ≤ k) = true := decide_eq_true i1
      obtain ⟨q, hq⟩ : ∃ q, xs.length - (k + 1) = q := ⟨_, rfl⟩
      have hqb : q ≤ 100000 := by omega
      by_cases e : x = t
      · have e1 : (x != t) = false := by simpa using e
        have hfin := age_at xs t q (by omega) (fun j h1 h2 => HA.out j (by omega) h2) (.inr (by rw [show xs.length - 1 - q = k by omega, ← hx]; exact e))
        rw [← hx] at hc
        rw [hq]
        have HF := Lib.hid hfin
        clear e hx hfin hq
        go_wp2_with fail
        go_ret
        exact ⟨by rw [HF.out]; rfl, rfl⟩
      · have e1 : (x != t) = true := by simpa using e
        have hall2 : ∀ j, k ≤ j → j < xs.length → xs.getD j 0 ≠ t := fun j h1 h2 => by
          by_cases ej : j = k
          · subst ej; rw [← hx]; exact e
          · exact HA.out j (by omega) h2
        have HALL := Lib.hid hall2
        have hq2 : xs.length - k = q + 1 := by omega
        have HQ2 := Lib.hid hq2
        rw [← hx] at hc
        rw [hq]
        clear e hx hall2 hq hq2
        go_wp2_with fail
        go_round
        case rel => exact ⟨k, by omega, by rw [HQ2.out]; go_num, by first | rfl | exact val_int (by omega), HALL.out⟩
        case measure => simp [intOf]

theorem rfirst_any (A : Option Addr) (xs : List Int) (m c n : Nat) (s t : Nat) (w : World) (hr : Rd (fun _ => True) w A (ints xs)) (hl : xs.length = m) (hn : m ≤ 100000) (hmc : m ≤ c) (hs : s < n) (ht : t < n) :
    Calls Try.prog 46 #[.slice A m c, .int .i64 s, .int .i64 t] w fun e w' => e = .returned (.bool (ltB (ageL xs n) s t)) ∧ w = w' := by
  have ha := fun t W hR => rage_any A xs m c t W hR hl hn hmc
  have hlt : ltB (ageL xs n) s t = (decide (ageI xs t < ageI xs s) || (decide (ageI xs s = ageI xs t) && decide (s < t))) := by
    unfold ltB
    rw [agA_ageL xs n s hs, agA_ageL xs n t ht, Bool.eq_iff_iff]
    simp
    omega
  have h1 := ha s w hr
  have h2 := ha t w hr
  rw [hlt]
  generalize ageI xs s = a at *
  generalize ageI xs t = b at *
  clear ha hlt
  by_cases c1 : b < a
  · have d1 : decide (b < a) = true := decide_eq_true c1
    rw [decide_eq_true c1, Bool.true_or]
    clear c1
    go_enter Try.func46, Try.ntmps46
    go_wp2_with fail
    refine h1.mono ?_
    rintro e w' ⟨rfl, rfl⟩
    go_wp2_with fail
    refine h2.mono ?_
    rintro e w' ⟨rfl, rfl⟩
    go_wp2_with fail
    go_ret
    exact ⟨rfl, rfl⟩
  · have d1 : decide (b < a) = false := decide_eq_false c1
    rw [decide_eq_false c1, Bool.false_or]
    by_cases c2 : a = b
    · subst c2
      have e1 : ((a : Int) == a) = true := by rw [beq_iff_eq]
      rw [decide_eq_true rfl, Bool.true_and]
      clear c1
      go_enter Try.func46, Try.ntmps46
      go_wp2_with fail
      refine h1.mono ?_
      rintro e w' ⟨rfl, rfl⟩
      go_wp2_with fail
      refine h2.mono ?_
      rintro e w' ⟨rfl, rfl⟩
      go_wp2_with fail
      go_ret
      exact ⟨by first | rfl | (simp), rfl⟩
    · have e1 : ((a : Int) == b) = false := by rw [beq_eq_false_iff_ne]; omega
      rw [decide_eq_false c2, Bool.false_and]
      clear c1 c2
      go_enter Try.func46, Try.ntmps46
      go_wp2_with fail
      refine h1.mono ?_
      rintro e w' ⟨rfl, rfl⟩
      go_wp2_with fail
      refine h2.mono ?_
      rintro e w' ⟨rfl, rfl⟩
      go_wp2_with fail
      go_ret
      exact ⟨rfl, rfl⟩

def pickTo (d0 : Nat) (want : Int) (t : Nat) : Int := if d0 < t then (d0 : Int) else want
theorem pickTo_hit (d0 : Nat) (want : Int) : pickTo d0 want (d0 + 1) = d0 := by unfold pickTo; rw [if_pos (by omega)]
theorem pickTo_miss (d0 : Nat) (want : Int) (t : Nat) (h : t ≠ d0) : pickTo d0 want (t + 1) = pickTo d0 want t := by
  unfold pickTo
  by_cases h1 : d0 < t
  · rw [if_pos (by omega), if_pos h1]
  · rw [if_neg (by omega), if_neg h1]
set_option maxRecDepth 100000 in
set_option maxHeartbeats 2000000 in
theorem rnext_any (A : Option Addr) (xs : List Int) (m c n d0 : Nat) (size want : Int) (w : World) (hr : Rd (fun _ => True) w A (ints xs)) (hl : xs.length = m) (hm : m ≤ 100000) (hmc : m ≤ c) (hn : n ≤ 64) (hF : First (ageL xs n) n d0) (s1 : 1 ≤ size) (s2 : size ≤ 100000) :
    Calls Try.prog 32 #[.slice A m c, .int .i64 n, .int .i64 size, .int .i64 want] w fun e w' => e = .returned (.int .i64 (if urgB (ageL xs n) n size then (d0 : Int) else want)) ∧ w = w' := by
  have ha := fun t W hR => rage_any A xs m c t W hR hl hm hmc
  have hf := fun s t W hR h1 h2 => rfirst_any A xs m c n s t W hR hl hm hmc h1 h2
  have hle := fun t => ageI_le xs t
  rw [hl] at hle
  obtain ⟨R, hR⟩ : ∃ R : Int, (if urgB (ageL xs n) n size then (d0 : Int) else want) = R := ⟨_, rfl⟩
  rw [hR]
  have HR := Lib.hid hR
  clear hR
  go_enter Try.func32, Try.ntmps32
  go_wp2_with fail
  go_loopw [9, 10, 11] (fun v9 v10 v11 wr => ∃ t : Nat, t ≤ n ∧ v11 = .int .i64 t ∧ v9 = .int .i64 (pickTo d0 want t) ∧ v10 = .bool (urgTo (ageL xs n) n size t) ∧ wr = w) (fun _ _ v _ => n - (intOf v).toNat)
  case atStart => exact ⟨0, Nat.zero_le _, rfl, rfl, rfl, rfl⟩
  case round =>
    obtain ⟨t, ht, rfl, rfl, rfl, rfl⟩ := hrel
    by_cases hlt : t < n
    · go_wp2_with fail
      go_loopw [12, 13] (fun v12 v13 wq => ∃ k : Nat, k ≤ n ∧ v13 = .int .i64 k ∧ v12 = .int .i64 ((rng k).countP (fun o => ltB (ageL xs n) o t) : Nat) ∧ wq = wr) (fun _ v _ => n - (intOf v).toNat)
      case atStart => exact ⟨0, Nat.zero_le _, rfl, rfl, rfl⟩
      case round =>
        obtain ⟨k, hk, rfl, rfl, rfl⟩ := hrel
        by_cases hltk : k < n
        · have hcall := hf k t wr hr hltk hlt
          have hcs := countP_rng (ageL xs n) t k
          have hcl := countP_rng_le (ageL xs n) t k
          generalize (rng k).countP (fun o => ltB (ageL xs n) o t) = q at *
          have HCS := Lib.hid hcs
          cases hb : ltB (ageL xs n) k t
          · rw [hb] at hcall HCS
            clear hcs hf ha
            go_wp2_with fail
            refine hcall.mono ?_
            rintro e w' ⟨rfl, rfl⟩
            go_wp2_with fail
            go_roundw
            case rel => exact ⟨k + 1, by omega, by go_num, by rw [HCS.out]; simp, by first | rfl | trivial⟩
            case measure => simp [intOf]; omega
          · rw [hb] at hcall HCS
            clear hcs hf ha
            go_wp2_with fail
            refine hcall.mono ?_
            rintro e w' ⟨rfl, rfl⟩
            go_wp2_with fail
            go_roundw
            case rel => exact ⟨k + 1, by omega, by go_num, by rw [HCS.out]; simp, by first | rfl | trivial⟩
            case measure => simp [intOf]; omega
        · obtain rfl : k = n := by omega
          have hus := urgTo_succ (ageL xs k) k size t
          rw [agA_ageL xs k t hlt] at hus
          have hrk : rank (ageL xs k) k t = (rng k).countP (fun o => ltB (ageL xs k) o t) := rfl
          rw [← hrk]
          have hrle : rank (ageL xs k) k t ≤ k := countP_rng_le _ _ _
          have hz : rank (ageL xs k) k t = 0 ↔ t = d0 := ⟨fun e => hF.only t hlt e, fun e => by rw [e]; exact hF.zero⟩
          have hcall := ha t wr hr
          have hla := hle (t : Int)
          obtain ⟨U, hU⟩ : ∃ U, urgTo (ageL xs k) k size t = U := ⟨_, rfl⟩
          rw [hU] at hus ⊢
          generalize rank (ageL xs k) k t = q at *
          generalize ageI xs t = a at *
          have HUS := Lib.hid hus
          have HZ := Lib.hid hz
          clear hus hU hrk hz hf ha hle
          have sx : IntKind.i64.wrap ((a : Int) + q) = a + q := IntWalk.i64_in _ (by omega)
          have sy : IntKind.i64.wrap (size - 1) = size - 1 := IntWalk.i64_in _ (by omega)
          have hpick : Hid (pickTo d0 want (t + 1) = if q = 0 then (t : Int) else pickTo d0 want t) := (show _ = _ from by
            by_cases e : q = 0
            · rw [if_pos e]
              have := HZ.out.1 e
              subst this
              exact pickTo_hit t want
            · rw [if_neg e]
              exact pickTo_miss d0 want t (fun h => e (HZ.out.2 h)))
          by_cases hq : q = 0
          · subst hq
            cases U
            all_goals
              go_wp2_with (go_at_call 33; refine hcall.mono ?_; rintro e w' ⟨rfl, rfl⟩)
              go_roundw
              case rel => exact ⟨t + 1, by omega, by go_num, by rw [hpick.out]; rfl, by rw [HUS.out]; first | rfl | simp, by first | rfl | trivial⟩
              case measure => simp [intOf]; omega
          · have e1 : ((q : Int) == 0) = false := by rw [beq_eq_false_iff_ne]; omega
            rw [if_neg hq] at hpick
            clear hq
            cases U
            all_goals
              go_wp2_with (go_at_call 33; refine hcall.mono ?_; rintro e w' ⟨rfl, rfl⟩)
              go_roundw
              case rel => exact ⟨t + 1, by omega, by go_num, by rw [hpick.out], by rw [HUS.out]; first | rfl | simp, by first | rfl | trivial⟩
              case measure => simp [intOf]; omega
    · obtain rfl : t = n := by omega
      rw [urgTo_full]
      have hp : Hid (pickTo d0 want t = d0) := (show _ = _ from by unfold pickTo; rw [if_pos hF.lt])
      have hrr := HR.out
      clear HR
      cases hu : urgB (ageL xs t) t size
      · have HR2 : Hid (want = R) := (show want = R from by rw [← hrr, hu]; simp)
        clear hrr
        go_wp2_with fail
        go_ret
        exact ⟨by rw [← HR2.out]; rfl, rfl⟩
      · have HR2 : Hid ((d0 : Int) = R) := (show (d0 : Int) = R from by rw [← hrr, hu]; simp)
        clear hrr
        go_wp2_with fail
        go_ret
        exact ⟨by rw [← HR2.out, ← hp.out]; rfl, rfl⟩
end Go.Proofs.Ytbpkedghnjiehaa
