/-
  Contract of layer 12's arena: an arena with given words.
-/
import Derived.Test.YtmbofohdjdipdaaMem5
namespace Go.Proofs.Ytmbofohdjdipdaa
open Go.RowKit

abbrev memI (b : Nat) : Value := .iface 26 (.pointer (some ⟨b, 0, none⟩))
def cur (xs : List Int) (k : Nat) : List Int := xs.take k ++ List.replicate (xs.length - k) 0
theorem cur_len (xs : List Int) (k : Nat) (h : k ≤ xs.length) : (cur xs k).length = xs.length := by simp [cur]; omega
theorem cur_all (xs : List Int) : cur xs xs.length = xs := by simp [cur]
theorem cur_zero (xs : List Int) : cur xs 0 = List.replicate xs.length 0 := by simp [cur]
theorem cur_set (xs : List Int) (k : Nat) (h : k < xs.length) : (cur xs k).set k (xs.getD k 0) = cur xs (k + 1) := by
  unfold cur
  obtain ⟨m, hm⟩ : ∃ m, xs.length - k = m + 1 := ⟨xs.length - k - 1, by omega⟩
  have : k - (xs.take k).length = 0 := by simp; omega
  rw [hm, show xs.length - (k + 1) = m by omega, List.replicate_succ, List.set_append_right _ _ (by simp; omega), List.take_succ_eq_append_getElem h, this, List.set_cons_zero, List.append_assoc, List.singleton_append,
    show xs.getD k 0 = xs[k] by simp [List.getD, List.getElem?_eq_getElem h]]
theorem cur_same (xs : List Int) (k : Nat) (h : k < xs.length) (h0 : xs.getD k 0 = 0) : cur xs k = cur xs (k + 1) := by
  rw [← cur_set xs k h, h0]
  apply List.ext_getElem
  · simp
  · intro i h1 h2
    rw [List.getElem_set]
    split
    · subst_vars
      simp [cur, List.getElem_append]
      omega
    · rfl
theorem doWs_store (ws : List Int) (k : Nat) (x : Int) (h : k < ws.length) : doWs ws 2 k 0 x = ws.set k x := by
  unfold doWs
  rw [if_pos ⟨by omega, by omega, by omega, by omega, .inl rfl⟩]
  rfl
theorem doE_in (ws : List Int) (a : Int) (k : Nat) (ha : 1 ≤ a ∧ a ≤ 4) (h : k < ws.length) : doE ws a k = 0 := by
  unfold doE
  rw [if_neg (by omega), if_neg (by omega)]

def MadePost (w : World) (xs : List Int) (e : Ending) (w' : World) : Prop :=
  ∃ b g, e = .returned (.pointer (some ⟨b, 0, none⟩)) ∧ MemAt w' b g xs.length xs ∧ w.heap.size ≤ b ∧ w.heap.size ≤ g ∧ Below w.heap.size w w'

set_option maxHeartbeats 400000 in
theorem made_ok (A : Option Addr) (xs : List Int) (n c : Nat) (w : World) (hr : Rd (fun k => k < w.heap.size) w A (u64s xs)) (hl : xs.length = n) (h1 : 1 ≤ n) (h2 : n ≤ 65536) (hc : n ≤ c) (hwf : ∀ x ∈ xs, 0 ≤ x ∧ x ≤ 18446744073709551615) :
    Calls Try.prog 11 #[.slice A n c] w (MadePost w xs) := by
  subst hl
  go_enter Try.func11, Try.ntmps11
  go_wp2_with (go_at_call 57; refine (mnew_ok xs.length _ h1 h2).mono ?_; rintro e w1 ⟨b, g, rfl, hm, hb, hg, hbl⟩)
  rw [← cur_zero] at hm
  go_loopw [21] (fun v wr => ∃ k : Nat, k ≤ xs.length ∧ v = .int .i64 k ∧ MemAt wr b g xs.length (cur xs k) ∧ Below w.heap.size w wr) (fun v _ => xs.length - (intOf v).toNat)
  case atStart => exact ⟨0, Nat.zero_le _, rfl, hm, hbl⟩
  case round =>
    obtain ⟨k, hk, rfl, hmk, hbk⟩ := hrel
    by_cases hlt : k < xs.length
    · have hrk := hr.keep (Ch.of_below hbk (fun _ => False)) (fun _ _ _ e => e)
      obtain ⟨b0, o0, rfl, hb0, hcx⟩ := rd_u64 hrk hlt
      have hx := hwf _ (show xs.getD k 0 ∈ xs by simp [List.getD, List.getElem?_eq_getElem hlt])
      obtain ⟨x, hX⟩ : ∃ x, x = xs.getD k 0 := ⟨_, rfl⟩
      rw [← hX] at hcx hx
      have hk1 : k < (cur xs k).length := by rw [cur_len _ _ hk]; exact hlt
      have HS := Lib.hid (show (cur xs k).set k x = cur xs (k + 1) by rw [hX]; exact cur_set xs k hlt)
      have HZ := Lib.hid (cur_same xs k hlt)
      have HX := Lib.hid hX
      have HE := doE_in (cur xs k) 2 k (by omega) hk1
      have HW := Lib.hid (doWs_store (cur xs k) k x hk1)
      clear hX
      have i1 : (0 : Int) ≤ k := Int.natCast_nonneg _
      have i2 : (k : Int) < (xs.length : Int) := by omega
      by_cases hx0 : x = 0
      · have e0 : (x == 0) = true := by rw [beq_iff_eq]; exact hx0
        go_wp2
        go_roundw
        case rel => exact ⟨k + 1, by omega, by go_num, by rw [← HZ.out (by rw [← HX.out]; exact hx0)]; exact hmk, hbk⟩
        case measure => simp [intOf]; omega
      · have e0 : (x == 0) = false := by rw [beq_eq_false_iff_ne]; exact hx0
        go_wp2_with (go_at_call 13; refine (mstore_any b g xs.length (cur xs k) k x _ hmk hx).mono ?_; rw [HE, HW.out, HS.out]; rintro e w2 ⟨rfl, hm2, hc2⟩)
        go_roundw
        case rel => exact ⟨k + 1, by omega, by go_num, hm2, hbk.trans (hc2.below (fun j _ e => by omega) hbk.size)⟩
        case measure => simp [intOf]; omega
    · obtain rfl : k = xs.length := by omega
      rw [cur_all] at hmk
      go_wp2
      go_ret
      exact ⟨b, g, rfl, hmk, hb, hg, hbk⟩
end Go.Proofs.Ytmbofohdjdipdaa
