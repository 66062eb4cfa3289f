/-
  Contracts of the reference of layer 13, second part: Same, At, before, Of.
-/
import Derived.Test.YtpndlggahdefcaaRTr
import Derived.Test.YtpndlggahdefcaaWtSort
import Derived.Test.YtpndlggahdefcaaTr8
namespace Go.Proofs.Ytpndlggahdefcaa
open Go.RowKit
set_option linter.unusedSimpArgs false
set_option linter.unusedVariables false

set_option maxHeartbeats 1000000 in
theorem wt_neq (a0 a1 a2 a3 a4 b0 b1 b2 b3 b4 : Int) (w : World) :
    (binOp .neq 60 (.agg #[.int .i64 a0, .int .i64 a1, .int .i64 a2, .int .i64 a3, .int .i64 a4]) (.agg #[.int .i64 b0, .int .i64 b1, .int .i64 b2, .int .i64 b3, .int .i64 b4])).run Try.prog w = .ok (.bool (!decide (Wt.mk a0 a1 a2 a3 a4 = Wt.mk b0 b1 b2 b3 b4))) w := by
  by_cases h0 : a0 = b0
  · by_cases h1 : a1 = b1
    · by_cases h2 : a2 = b2
      · by_cases h3 : a3 = b3
        · by_cases h4 : a4 = b4
          · (go_simp; try simp [*])
          · (go_simp; try simp [*])
        · (go_simp; try simp [*])
      · (go_simp; try simp [*])
    · (go_simp; try simp [*])
  · (go_simp; try simp [*])
set_option maxHeartbeats 1000000 in
theorem dd_neq (a0 a1 a2 a3 a4 b0 b1 b2 b3 b4 : Int) (a5 a6 b5 b6 : Bool) (w : World) :
    (binOp .neq 47 (.agg #[.int .i64 a0, .int .i64 a1, .int .i64 a2, .int .u64 a3, .int .u64 a4, .bool a5, .bool a6]) (.agg #[.int .i64 b0, .int .i64 b1, .int .i64 b2, .int .u64 b3, .int .u64 b4, .bool b5, .bool b6])).run Try.prog w = .ok (.bool (!decide (Dd.mk a0 a1 a2 a3 a4 a5 a6 = Dd.mk b0 b1 b2 b3 b4 b5 b6))) w := by
  by_cases h0 : a0 = b0
  · by_cases h1 : a1 = b1
    · by_cases h2 : a2 = b2
      · by_cases h3 : a3 = b3
        · by_cases h4 : a4 = b4
          · cases a5 <;> cases b5 <;> cases a6 <;> cases b6 <;> (go_simp; try simp [*])
          · (go_simp; try simp [*])
        · (go_simp; try simp [*])
      · (go_simp; try simp [*])
    · (go_simp; try simp [*])
  · (go_simp; try simp [*])
theorem rd_wt {G : Nat → Prop} {w : World} {A : Option Addr} {l : List Wt} (h : Rd G w A (wts l)) {i : Nat} {d : Wt} (hi : l[i]? = some d) : ∃ b o, A = some ⟨b, o, none⟩ ∧ G b ∧ b < w.heap.size ∧ w.rangeAt b (o + i * 5) d.cells := by
  have hl : i < l.length := (List.getElem?_eq_some_iff.1 hi).1
  obtain ⟨b, o, hA, hG, hb, hc⟩ := h (by intro e0; have := wts_len l; rw [e0] at this; simp only [List.length_nil] at this; omega)
  refine ⟨b, o, hA, hG, hb, fun j v hj => ?_⟩
  rw [Nat.add_assoc]
  have hj7 : j < 5 := (List.getElem?_eq_some_iff.1 hj).1
  exact hc _ v ((wts_at hi hj7).trans hj)
theorem take_same {α : Type} {xs ys : List α} (hl : xs.length = ys.length) (h : ∀ j, j < xs.length → xs[j]? = ys[j]?) : xs = ys := by
  apply List.ext_getElem?
  intro i
  by_cases hi : i < xs.length
  · exact h i hi
  · rw [List.getElem?_eq_none (by omega), List.getElem?_eq_none (by omega)]
set_option maxHeartbeats 1000000 in
theorem rsameW_ok (A B : Option Addr) (xs ys : List Wt) (n m c d : Nat) (w : World) (hx : Rd (fun _ => True) w A (wts xs)) (hy : Rd (fun _ => True) w B (wts ys)) (h1 : xs.length = n) (h2 : ys.length = m) (hn : n ≤ 1000000) (hm : m ≤ 1000000) (hc : n ≤ c) (hd : m ≤ d) :
    Calls Try.prog 55 #[.slice A n c, .slice B m d] w fun e w' => e = .returned (.bool (decide (xs = ys))) ∧ Below w.heap.size w w' := by
  subst h1 h2
  by_cases hl : xs.length = ys.length
  · have e0 : ((xs.length : Int) == ys.length) = true := by rw [beq_iff_eq]; omega
    go_enter Try.func55, Try.ntmps55
    go_wp2
    go_loopw [5] (fun v wr => ∃ k : Nat, k ≤ xs.length ∧ v = .int .i64 k ∧ (∀ j, j < k → xs[j]? = ys[j]?) ∧ Below w.heap.size w wr) (fun v _ => xs.length - (intOf v).toNat)
    case atStart => exact ⟨0, Nat.zero_le _, rfl, fun j hj => (by omega), Below.refl _ _⟩
    case round =>
      obtain ⟨k, hk, rfl, ht, hb⟩ := hrel
      have HT := Lib.hid ht
      clear ht
      by_cases hlt : k < xs.length
      · obtain ⟨x, hxk⟩ : ∃ r, xs[k]? = some r := ⟨_, List.getElem?_eq_getElem hlt⟩
        obtain ⟨y, hyk⟩ : ∃ r, ys[k]? = some r := ⟨_, List.getElem?_eq_getElem (by omega)⟩
        obtain ⟨b1, o1, rfl, _, _, hcx⟩ := rd_wt (hx.keep (Ch.of_below hb (fun _ => False)) (fun _ _ _ e => e)) hxk
        obtain ⟨b2, o2, rfl, _, _, hcy⟩ := rd_wt (hy.keep (Ch.of_below hb (fun _ => False)) (fun _ _ _ e => e)) hyk
        have HX := Lib.hid hxk
        have HY := Lib.hid hyk
        obtain ⟨a0, a1, a2, a3, a4⟩ := x
        obtain ⟨q0, q1, q2, q3, q4⟩ := y
        have f0 := hcx 0 _ rfl
        have f1 := hcx 1 _ rfl
        have f2 := hcx 2 _ rfl
        have f3 := hcx 3 _ rfl
        have f4 := hcx 4 _ rfl
        have g0 := hcy 0 _ rfl
        have g1 := hcy 1 _ rfl
        have g2 := hcy 2 _ rfl
        have g3 := hcy 3 _ rfl
        have g4 := hcy 4 _ rfl
        simp only [Nat.add_zero] at f0 g0
        have hne := wt_neq a0 a1 a2 a3 a4 q0 q1 q2 q3 q4
        have i1 : (0 : Int) ≤ k := Int.natCast_nonneg _
        have i2 : (k : Int) < (xs.length : Int) := by omega
        have i4 : (k : Int) < (ys.length : Int) := by omega
        clear hcx hcy hxk hyk
        by_cases hxy : Wt.mk a0 a1 a2 a3 a4 = Wt.mk q0 q1 q2 q3 q4
        · rw [decide_eq_true hxy] at hne
          have HN : Hid (∀ j, j < k + 1 → xs[j]? = ys[j]?) := fun j hj => by
            by_cases e : j = k
            · subst e; rw [HX.out, HY.out, hxy]
            · exact HT.out j (by omega)
          clear hxy
          go_upto_region 6 with fail
          go_quiet (fail)
          go_wp2_with fail
          go_roundw
          case rel => exact ⟨k + 1, by omega, by go_num, HN.out, by (repeat' (first | (with_reducible exact Below.refl _ _) | (with_reducible assumption) | (with_reducible refine Below.alloc ?_ ?_ _) | (with_reducible refine Below.drew ?_) | (with_reducible refine below_drewN ?_ _) | (with_reducible refine Below.setCell ?_ ?_ _) | (with_reducible refine Below.trans ?_ (Below.mono (by assumption) ?_)) | (first | go_size | (with_reducible exact Below.size (by assumption)) | (with_reducible exact Nat.le_trans (Below.size (by assumption)) (Below.size (by assumption))) | (refine Nat.le_trans (Below.size (by assumption)) ?_; go_size))))⟩
          case measure => simp [intOf]; omega
        · rw [decide_eq_false hxy] at hne
          have HN := Lib.hid (show decide (xs = ys) = false from decide_eq_false fun e => by
            subst e
            have h7 := HX.out.symm.trans HY.out
            injection h7 with h7
            exact hxy h7)
          clear hxy
          go_upto_region 6 with fail
          go_quiet (fail)
          go_wp2_with fail
          go_ret
          exact ⟨by rw [HN.out]; rfl, by (repeat' (first | (with_reducible exact Below.refl _ _) | (with_reducible assumption) | (with_reducible refine Below.alloc ?_ ?_ _) | (with_reducible refine Below.drew ?_) | (with_reducible refine below_drewN ?_ _) | (with_reducible refine Below.setCell ?_ ?_ _) | (with_reducible refine Below.trans ?_ (Below.mono (by assumption) ?_)) | (first | go_size | (with_reducible exact Below.size (by assumption)) | (with_reducible exact Nat.le_trans (Below.size (by assumption)) (Below.size (by assumption))) | (refine Nat.le_trans (Below.size (by assumption)) ?_; go_size))))⟩
      · have HN := Lib.hid (show decide (xs = ys) = true from decide_eq_true (take_same hl (fun j hj => HT.out j (by omega))))
        obtain rfl : k = xs.length := by omega
        go_wp2
        go_ret
        exact ⟨by rw [HN.out]; rfl, hb⟩
  · have e0 : ((xs.length : Int) == ys.length) = false := by rw [beq_eq_false_iff_ne]; omega
    have HN := Lib.hid (show decide (xs = ys) = false from decide_eq_false fun e => hl (by rw [e]))
    go_enter Try.func55, Try.ntmps55
    go_wp2
    go_ret
    exact ⟨by rw [HN.out]; rfl, Below.refl _ _⟩
set_option maxHeartbeats 1000000 in
theorem rsameD_ok (A B : Option Addr) (xs ys : List Dd) (n m c d : Nat) (w : World) (hx : Rd (fun _ => True) w A (dds xs)) (hy : Rd (fun _ => True) w B (dds ys)) (h1 : xs.length = n) (h2 : ys.length = m) (hn : n ≤ 1000000) (hm : m ≤ 1000000) (hc : n ≤ c) (hd : m ≤ d) :
    Calls Try.prog 32 #[.slice A n c, .slice B m d] w fun e w' => e = .returned (.bool (decide (xs = ys))) ∧ Below w.heap.size w w' := by
  subst h1 h2
  by_cases hl : xs.length = ys.length
  · have e0 : ((xs.length : Int) == ys.length) = true := by rw [beq_iff_eq]; omega
    go_enter Try.func32, Try.ntmps32
    go_wp2
    go_loopw [5] (fun v wr => ∃ k : Nat, k ≤ xs.length ∧ v = .int .i64 k ∧ (∀ j, j < k → xs[j]? = ys[j]?) ∧ Below w.heap.size w wr) (fun v _ => xs.length - (intOf v).toNat)
    case atStart => exact ⟨0, Nat.zero_le _, rfl, fun j hj => (by omega), Below.refl _ _⟩
    case round =>
      obtain ⟨k, hk, rfl, ht, hb⟩ := hrel
      have HT := Lib.hid ht
      clear ht
      by_cases hlt : k < xs.length
      · obtain ⟨x, hxk⟩ : ∃ r, xs[k]? = some r := ⟨_, List.getElem?_eq_getElem hlt⟩
        obtain ⟨y, hyk⟩ : ∃ r, ys[k]? = some r := ⟨_, List.getElem?_eq_getElem (by omega)⟩
        obtain ⟨b1, o1, rfl, _, _, hcx⟩ := rd_dd (hx.keep (Ch.of_below hb (fun _ => False)) (fun _ _ _ e => e)) hxk
        obtain ⟨b2, o2, rfl, _, _, hcy⟩ := rd_dd (hy.keep (Ch.of_below hb (fun _ => False)) (fun _ _ _ e => e)) hyk
        have HX := Lib.hid hxk
        have HY := Lib.hid hyk
        obtain ⟨a0, a1, a2, a3, a4, a5, a6⟩ := x
        obtain ⟨q0, q1, q2, q3, q4, q5, q6⟩ := y
        have f0 := hcx 0 _ rfl
        have f1 := hcx 1 _ rfl
        have f2 := hcx 2 _ rfl
        have f3 := hcx 3 _ rfl
        have f4 := hcx 4 _ rfl
        have f5 := hcx 5 _ rfl
        have f6 := hcx 6 _ rfl
        have g0 := hcy 0 _ rfl
        have g1 := hcy 1 _ rfl
        have g2 := hcy 2 _ rfl
        have g3 := hcy 3 _ rfl
        have g4 := hcy 4 _ rfl
        have g5 := hcy 5 _ rfl
        have g6 := hcy 6 _ rfl
        simp only [Nat.add_zero] at f0 g0
        have hne := dd_neq a0 a1 a2 a3 a4 q0 q1 q2 q3 q4 a5 a6 q5 q6
        have i1 : (0 : Int) ≤ k := Int.natCast_nonneg _
        have i2 : (k : Int) < (xs.length : Int) := by omega
        have i4 : (k : Int) < (ys.length : Int) := by omega
        clear hcx hcy hxk hyk
        by_cases hxy : Dd.mk a0 a1 a2 a3 a4 a5 a6 = Dd.mk q0 q1 q2 q3 q4 q5 q6
        · rw [decide_eq_true hxy] at hne
          have HN : Hid (∀ j, j < k + 1 → xs[j]? = ys[j]?) := fun j hj => by
            by_cases e : j = k
            · subst e; rw [HX.out, HY.out, hxy]
            · exact HT.out j (by omega)
          clear hxy
          go_upto_region 6 with fail
          go_quiet (fail)
          go_wp2_with fail
          go_roundw
          case rel => exact ⟨k + 1, by omega, by go_num, HN.out, by (repeat' (first | (with_reducible exact Below.refl _ _) | (with_reducible assumption) | (with_reducible refine Below.alloc ?_ ?_ _) | (with_reducible refine Below.drew ?_) | (with_reducible refine below_drewN ?_ _) | (with_reducible refine Below.setCell ?_ ?_ _) | (with_reducible refine Below.trans ?_ (Below.mono (by assumption) ?_)) | (first | go_size | (with_reducible exact Below.size (by assumption)) | (with_reducible exact Nat.le_trans (Below.size (by assumption)) (Below.size (by assumption))) | (refine Nat.le_trans (Below.size (by assumption)) ?_; go_size))))⟩
          case measure => simp [intOf]; omega
        · rw [decide_eq_false hxy] at hne
          have HN := Lib.hid (show decide (xs = ys) = false from decide_eq_false fun e => by
            subst e
            have h7 := HX.out.symm.trans HY.out
            injection h7 with h7
            exact hxy h7)
          clear hxy
          go_upto_region 6 with fail
          go_quiet (fail)
          go_wp2_with fail
          go_ret
          exact ⟨by rw [HN.out]; rfl, by (repeat' (first | (with_reducible exact Below.refl _ _) | (with_reducible assumption) | (with_reducible refine Below.alloc ?_ ?_ _) | (with_reducible refine Below.drew ?_) | (with_reducible refine below_drewN ?_ _) | (with_reducible refine Below.setCell ?_ ?_ _) | (with_reducible refine Below.trans ?_ (Below.mono (by assumption) ?_)) | (first | go_size | (with_reducible exact Below.size (by assumption)) | (with_reducible exact Nat.le_trans (Below.size (by assumption)) (Below.size (by assumption))) | (refine Nat.le_trans (Below.size (by assumption)) ?_; go_size))))⟩
      · have HN := Lib.hid (show decide (xs = ys) = true from decide_eq_true (take_same hl (fun j hj => HT.out j (by omega))))
        obtain rfl : k = xs.length := by omega
        go_wp2
        go_ret
        exact ⟨by rw [HN.out]; rfl, hb⟩
  · have e0 : ((xs.length : Int) == ys.length) = false := by rw [beq_eq_false_iff_ne]; omega
    have HN := Lib.hid (show decide (xs = ys) = false from decide_eq_false fun e => hl (by rw [e]))
    go_enter Try.func32, Try.ntmps32
    go_wp2
    go_ret
    exact ⟨by rw [HN.out]; rfl, Below.refl _ _⟩
theorem rat_ok (d : Dd) (w : World) : Calls Try.prog 23 #[.agg d.cells.toArray] w fun e w' => e = .returned (.int .i64 (atB d)) ∧ Below w.heap.size w w' := by
  obtain ⟨t, k, x, b, a, wt, en⟩ := d
  have HA := Lib.hid (show atB ⟨t, k, x, b, a, wt, en⟩ = if wt = true ∧ k = 1 then x else -1 from rfl)
  generalize atB ⟨t, k, x, b, a, wt, en⟩ = V at *
  simp only [Dd.cells]
  cases wt
  · obtain rfl : V = -1 := by rw [HA.out]; rfl
    go_enter Try.func23, Try.ntmps23
    go_wp2_with fail
    go_ret
    exact ⟨rfl, by (repeat' (first | (with_reducible exact Below.refl _ _) | (with_reducible assumption) | (with_reducible refine Below.alloc ?_ ?_ _) | (with_reducible refine Below.drew ?_) | (with_reducible refine below_drewN ?_ _) | (with_reducible refine Below.setCell ?_ ?_ _) | (with_reducible refine Below.trans ?_ (Below.mono (by assumption) ?_)) | (first | go_size | (with_reducible exact Below.size (by assumption)) | (with_reducible exact Nat.le_trans (Below.size (by assumption)) (Below.size (by assumption))) | (refine Nat.le_trans (Below.size (by assumption)) ?_; go_size))))⟩
  · by_cases hk : k = 1
    · have e1 : (k == 1) = true := by rw [beq_iff_eq]; exact hk
      obtain rfl : V = x := by rw [HA.out, if_pos ⟨rfl, hk⟩]
      clear hk
      go_enter Try.func23, Try.ntmps23
      go_wp2_with fail
      go_ret
      exact ⟨rfl, by (repeat' (first | (with_reducible exact Below.refl _ _) | (with_reducible assumption) | (with_reducible refine Below.alloc ?_ ?_ _) | (with_reducible refine Below.drew ?_) | (with_reducible refine below_drewN ?_ _) | (with_reducible refine Below.setCell ?_ ?_ _) | (with_reducible refine Below.trans ?_ (Below.mono (by assumption) ?_)) | (first | go_size | (with_reducible exact Below.size (by assumption)) | (with_reducible exact Nat.le_trans (Below.size (by assumption)) (Below.size (by assumption))) | (refine Nat.le_trans (Below.size (by assumption)) ?_; go_size))))⟩
    · have e1 : (k == 1) = false := by rw [beq_eq_false_iff_ne]; exact hk
      obtain rfl : V = -1 := by rw [HA.out, if_neg (fun h => hk h.2)]
      clear hk
      go_enter Try.func23, Try.ntmps23
      go_wp2_with fail
      go_ret
      exact ⟨rfl, by (repeat' (first | (with_reducible exact Below.refl _ _) | (with_reducible assumption) | (with_reducible refine Below.alloc ?_ ?_ _) | (with_reducible refine Below.drew ?_) | (with_reducible refine below_drewN ?_ _) | (with_reducible refine Below.setCell ?_ ?_ _) | (with_reducible refine Below.trans ?_ (Below.mono (by assumption) ?_)) | (first | go_size | (with_reducible exact Below.size (by assumption)) | (with_reducible exact Nat.le_trans (Below.size (by assumption)) (Below.size (by assumption))) | (refine Nat.le_trans (Below.size (by assumption)) ?_; go_size))))⟩
end Go.Proofs.Ytpndlggahdefcaa
