/-
  Contracts of package mem, fourth part: slices.Equal and Same of the reference, on lists of words.
-/
import Derived.Test.YtmbofohdjdipdaaMem3
namespace Go.Proofs.Ytmbofohdjdipdaa
open Go.RowKit

theorem rd_u64 {G : Nat → Prop} {w : World} {A : Option Addr} {xs : List Int} (h : Rd G w A (u64s xs)) {j : Nat} (hj : j < xs.length) :
    ∃ b o, A = some ⟨b, o, none⟩ ∧ b < w.heap.size ∧ w.cell? ⟨b, o + j, none⟩ = some (.int .u64 (xs.getD j 0)) := by
  obtain ⟨b, o, e, _, hb, hc⟩ := h (by intro hn; simp [u64s] at hn; subst hn; simp at hj)
  exact ⟨b, o, e, hb, hc j _ (u64s_at xs j hj)⟩
theorem take_succ_eq {xs ys : List Int} {k : Nat} (h1 : k < xs.length) (h2 : k < ys.length) (h : xs.take k = ys.take k) (e : xs.getD k 0 = ys.getD k 0) : xs.take (k + 1) = ys.take (k + 1) := by
  rw [List.take_succ_eq_append_getElem h1, List.take_succ_eq_append_getElem h2, h]
  simp [List.getD, List.getElem?_eq_getElem h1, List.getElem?_eq_getElem h2] at e
  rw [e]
def eqB (xs ys : List Int) : Bool := decide (xs = ys)
theorem eqB_len {xs ys : List Int} (h : xs.length ≠ ys.length) : eqB xs ys = false := by
  unfold eqB; rw [decide_eq_false_iff_not]; rintro rfl; exact h rfl
theorem eqB_at {xs ys : List Int} (k : Nat) (h : xs.getD k 0 ≠ ys.getD k 0) : eqB xs ys = false := by
  unfold eqB; rw [decide_eq_false_iff_not]; rintro rfl; exact h rfl
theorem eqB_all {xs ys : List Int} {k : Nat} (hl : xs.length = ys.length) (hk : k = xs.length) (h : xs.take k = ys.take k) : eqB xs ys = true := by
  unfold eqB; rw [decide_eq_true_eq]; subst hk; rwa [List.take_length, hl, List.take_length] at h

theorem rsame_any (A B : Option Addr) (xs ys : List Int) (n m c d : Nat) (w : World) (hx : Rd (fun _ => True) w A (u64s xs)) (hy : Rd (fun _ => True) w B (u64s ys)) (h1 : xs.length = n) (h2 : ys.length = m) (hn : n ≤ 100000) (hm : m ≤ 100000) (hc : n ≤ c) (hd : m ≤ d) :
    Calls Try.prog 47 #[.slice A n c, .slice B m d] w fun e w' => e = .returned (.bool (eqB xs ys)) ∧ ∃ q, w' = w.drewN q := by
  subst h1 h2
  by_cases hl : xs.length = ys.length
  · have e0 : ((xs.length : Int) == ys.length) = true := by rw [beq_iff_eq]; omega
    go_enter Try.func47, Try.ntmps47
    go_wp2
    go_loopw [5] (fun v wr => ∃ k : Nat, k ≤ xs.length ∧ v = .int .i64 k ∧ xs.take k = ys.take k ∧ ∃ q, wr = w.drewN q) (fun v _ => xs.length - (intOf v).toNat)
    case atStart => exact ⟨0, Nat.zero_le _, rfl, rfl, 0, rfl⟩
    case round =>
      obtain ⟨k, hk, rfl, ht, q, rfl⟩ := hrel
      have HT := Lib.hid ht
      clear ht
      by_cases hlt : k < xs.length
      · obtain ⟨b, o, rfl, hb, hcx⟩ := rd_u64 hx hlt
        obtain ⟨b', o', rfl, hb', hcy⟩ := rd_u64 hy (by omega : k < ys.length)
        obtain ⟨x, hX⟩ : ∃ x, x = xs.getD k 0 := ⟨_, rfl⟩
        obtain ⟨y, hY⟩ : ∃ y, y = ys.getD k 0 := ⟨_, rfl⟩
        rw [← hX] at hcx
        rw [← hY] at hcy
        have HX := Lib.hid hX
        have HY := Lib.hid hY
        clear hX hY
        have i1 : (0 : Int) ≤ k := Int.natCast_nonneg _
        have i2 : (k : Int) < (xs.length : Int) := by omega
        have i4 : (k : Int) < (ys.length : Int) := by omega
        have i3 : (k : Int) ≤ (c : Int) := by omega
        have hl1 : k < ys.length := by omega
        by_cases hxy : x = y
        · have HN : Hid (xs.take (k + 1) = ys.take (k + 1)) := take_succ_eq hlt hl1 HT.out (by rw [← HX.out, ← HY.out, hxy])
          subst hxy
          go_wp2_with (go_quiet (fail))
          go_roundw
          case rel => exact ⟨k + 1, by omega, by go_num, HN.out, ⟨_, rfl⟩⟩
          case measure => simp [intOf]; omega
        · have HN : Hid (eqB xs ys = false) := eqB_at k (by rw [← HX.out, ← HY.out]; exact hxy)
          have e1 : (x == y) = false := by rw [beq_eq_false_iff_ne]; exact hxy
          go_wp2_with (go_quiet (fail))
          go_ret
          exact ⟨by rw [HN.out]; rfl, by first | exact ⟨_, World.drewN_drewN _ _ _⟩ | exact ⟨_, rfl⟩⟩
      · have HN : Hid (eqB xs ys = true) := eqB_all hl (by omega) HT.out
        obtain rfl : k = xs.length := by omega
        go_wp2
        go_ret
        exact ⟨by rw [HN.out]; rfl, by first | exact ⟨_, World.drewN_drewN _ _ _⟩ | exact ⟨_, rfl⟩⟩
  · have e0 : ((xs.length : Int) == ys.length) = false := by rw [beq_eq_false_iff_ne]; omega
    have HN := Lib.hid (eqB_len hl)
    go_enter Try.func47, Try.ntmps47
    go_wp2
    go_ret
    exact ⟨by rw [HN.out]; rfl, 0, rfl⟩

theorem equal_any (A B : Option Addr) (xs ys : List Int) (n m c d : Nat) (w : World) (hx : Rd (fun _ => True) w A (u64s xs)) (hy : Rd (fun _ => True) w B (u64s ys)) (h1 : xs.length = n) (h2 : ys.length = m) (hn : n ≤ 100000) (hm : m ≤ 100000) (hc : n ≤ c) (hd : m ≤ d) :
    Calls Try.prog 80 #[.slice A n c, .slice B m d] w fun e w' => e = .returned (.bool (eqB xs ys)) ∧ ∃ q, w' = w.drewN q := by
  subst h1 h2
  by_cases hl : xs.length = ys.length
  · have e0 : ((xs.length : Int) == ys.length) = true := by rw [beq_iff_eq]; omega
    go_enter Try.func80, Try.ntmps80
    go_wp2
    go_loopw [13] (fun v wr => ∃ k : Nat, k ≤ xs.length ∧ v = .int .i64 k ∧ xs.take k = ys.take k ∧ ∃ q, wr = w.drewN q) (fun v _ => xs.length - (intOf v).toNat)
    case atStart => exact ⟨0, Nat.zero_le _, rfl, rfl, 0, rfl⟩
    case round =>
      obtain ⟨k, hk, rfl, ht, q, rfl⟩ := hrel
      have HT := Lib.hid ht
      clear ht
      by_cases hlt : k < xs.length
      · obtain ⟨b, o, rfl, hb, hcx⟩ := rd_u64 hx hlt
        obtain ⟨b', o', rfl, hb', hcy⟩ := rd_u64 hy (by omega : k < ys.length)
        obtain ⟨x, hX⟩ : ∃ x, x = xs.getD k 0 := ⟨_, rfl⟩
        obtain ⟨y, hY⟩ : ∃ y, y = ys.getD k 0 := ⟨_, rfl⟩
        rw [← hX] at hcx
        rw [← hY] at hcy
        have HX := Lib.hid hX
        have HY := Lib.hid hY
        clear hX hY
        have i1 : (0 : Int) ≤ k := Int.natCast_nonneg _
        have i2 : (k : Int) < (xs.length : Int) := by omega
        have i4 : (k : Int) < (ys.length : Int) := by omega
        have i3 : (k : Int) ≤ (c : Int) := by omega
        have hl1 : k < ys.length := by omega
        by_cases hxy : x = y
        · have HN : Hid (xs.take (k + 1) = ys.take (k + 1)) := take_succ_eq hlt hl1 HT.out (by rw [← HX.out, ← HY.out, hxy])
          subst hxy
          go_wp2_with (go_quiet (fail))
          go_roundw
          case rel => exact ⟨k + 1, by omega, by go_num, HN.out, ⟨_, rfl⟩⟩
          case measure => simp [intOf]; omega
        · have HN : Hid (eqB xs ys = false) := eqB_at k (by rw [← HX.out, ← HY.out]; exact hxy)
          have e1 : (x == y) = false := by rw [beq_eq_false_iff_ne]; exact hxy
          go_wp2_with (go_quiet (fail))
          go_ret
          exact ⟨by rw [HN.out]; rfl, by first | exact ⟨_, World.drewN_drewN _ _ _⟩ | exact ⟨_, rfl⟩⟩
      · have HN : Hid (eqB xs ys = true) := eqB_all hl (by omega) HT.out
        obtain rfl : k = xs.length := by omega
        go_wp2
        go_ret
        exact ⟨by rw [HN.out]; rfl, by first | exact ⟨_, World.drewN_drewN _ _ _⟩ | exact ⟨_, rfl⟩⟩
  · have e0 : ((xs.length : Int) == ys.length) = false := by rw [beq_eq_false_iff_ne]; omega
    have HN := Lib.hid (eqB_len hl)
    go_enter Try.func80, Try.ntmps80
    go_wp2
    go_ret
    exact ⟨by rw [HN.out]; rfl, 0, rfl⟩
end Go.Proofs.Ytmbofohdjdipdaa
