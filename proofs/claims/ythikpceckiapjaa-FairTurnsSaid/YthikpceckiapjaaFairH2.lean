/-
  Contracts of package stats as layer 51 uses it: bits.Len, Bucket, empty, Count, Sum, Buckets.
-/
import Derived.Test.YthikpceckiapjaaFairH1
namespace Go.Proofs.Ythikpceckiapjaa
open Go.RowKit

theorem len8_bd (i : Nat) (h : i < 256) : 0 ≤ Lib.len8 i ∧ Lib.len8 i ≤ 8 := by
  have : ∀ i : Fin 256, 0 ≤ Lib.len8 (i.val : Int) ∧ Lib.len8 (i.val : Int) ≤ 8 := by decide +kernel
  exact this ⟨i, h⟩
theorem len8_one : Lib.len8 1 = 1 := by decide +kernel
theorem len8_bd' {x : Int} (h : 0 ≤ x) (h2 : x ≤ 255) : 0 ≤ Lib.len8 x ∧ Lib.len8 x ≤ 8 := by
  obtain ⟨k, rfl⟩ : ∃ k : Nat, x = k := ⟨x.toNat, by omega⟩
  exact len8_bd k (by omega)
def bl1 (n : Int) : Int × Int := if 4294967296 ≤ n then (n / 4294967296, 32) else (n, 0)
def bl2 (p : Int × Int) : Int × Int := if 65536 ≤ p.1 then (p.1 / 65536, p.2 + 16) else p
def bl3 (p : Int × Int) : Int × Int := if 256 ≤ p.1 then (p.1 / 256, p.2 + 8) else p
def bl (n : Int) : Int := (bl3 (bl2 (bl1 n))).2 + Lib.len8 (bl3 (bl2 (bl1 n))).1
theorem bl_bd {n : Int} (h0 : 0 ≤ n) (h1 : n ≤ 1099511627776) : 0 ≤ bl n ∧ bl n ≤ 41 := by
  have key : ∀ p : Int × Int, (0 ≤ p.1 ∧ p.1 ≤ 255 ∧ 0 ≤ p.2 ∧ p.2 ≤ 32) ∨ p = (1, 40) → 0 ≤ p.2 + Lib.len8 p.1 ∧ p.2 + Lib.len8 p.1 ≤ 41 := fun p hp => by
    rcases hp with ⟨a, b, c, d⟩ | rfl
    · have := len8_bd' a b; omega
    · rw [len8_one]; omega
  refine key _ ?_
  unfold bl1
  split
  · unfold bl2
    rw [if_neg (by simp only; omega)]
    unfold bl3
    split
    · right
      rename_i h
      simp only at h ⊢
      have : n / 4294967296 = 256 := by omega
      rw [this]
      rfl
    · left; simp only at *; omega
  · unfold bl2
    split
    · unfold bl3
      split
      · left; simp only at *; omega
      · left; simp only at *; omega
    · unfold bl3
      split
      · left; simp only at *; omega
      · left; simp only at *; omega
set_option maxRecDepth 100000 in
set_option maxHeartbeats 1000000 in
theorem len64_ok (n : Int) (w : World) (h0 : 0 ≤ n) (h1 : n ≤ 1099511627776) :
    Calls Try.prog 32 #[.int .u64 n] w fun e w' => e = .returned (.int .i64 (bl n)) ∧ w = w' := by
  have HB := Lib.hid (show bl n = (bl3 (bl2 (bl1 n))).2 + Lib.len8 (bl3 (bl2 (bl1 n))).1 from rfl)
  have hb := bl_bd h0 h1
  generalize bl n = B at *
  have HN := Lib.hid hb
  clear hb
  by_cases c1 : 4294967296 ≤ n
  · have e1 : bl1 n = (n / 4294967296, 32) := if_pos c1
    have e2 : bl2 (n / 4294967296, 32) = (n / 4294967296, 32) := if_neg (by simp only; omega)
    obtain ⟨x, hx⟩ : ∃ x, n / 4294967296 = x := ⟨_, rfl⟩
    have x1 : 1 ≤ x := by omega
    have x2 : x ≤ 256 := by omega
    by_cases c3 : 256 ≤ x
    · have e3 : bl3 (x, 32) = (x / 256, 32 + 8) := if_pos c3
      have hE := HB.out
      rw [e1, e2, hx, e3] at hE
      simp only at hE
      obtain ⟨y, hy⟩ : ∃ y, x / 256 = y := ⟨_, rfl⟩
      have y1 : y = 1 := by omega
      rw [hy, y1, len8_one] at hE
      have h8 := len8_one
      subst y1 hE
      clear e1 e2 e3
      go_enter Try.func32, Try.ntmps32
      go_wp2
      go_ret
      exact ⟨rfl, rfl⟩
    · have e3 : bl3 (x, 32) = (x, 32) := if_neg c3
      have hE := HB.out
      rw [e1, e2, hx, e3] at hE
      simp only at hE
      have h8 := len8_bd' (x := x) (by omega) (by omega)
      have x3 : x ≤ 255 := by omega
      have x4 : 0 ≤ x := by omega
      subst hE
      clear e1 e2 e3
      go_enter Try.func32, Try.ntmps32
      go_wp2
      go_ret
      exact ⟨rfl, rfl⟩
  · have e1 : bl1 n = (n, 0) := if_neg c1
    by_cases c2 : 65536 ≤ n
    · have e2 : bl2 (n, 0) = (n / 65536, 0 + 16) := if_pos c2
      obtain ⟨x, hx⟩ : ∃ x, n / 65536 = x := ⟨_, rfl⟩
      have x1 : 1 ≤ x := by omega
      have x2 : x ≤ 65535 := by omega
      by_cases c3 : 256 ≤ x
      · have e3 : bl3 (x, 0 + 16) = (x / 256, 0 + 16 + 8) := if_pos c3
        have hE := HB.out
        rw [e1, e2, hx, e3] at hE
        simp only at hE
        obtain ⟨y, hy⟩ : ∃ y, x / 256 = y := ⟨_, rfl⟩
        rw [hy] at hE
        have h8 := len8_bd' (x := y) (by omega) (by omega)
        have y1 : 0 ≤ y := by omega
        have y2 : y ≤ 255 := by omega
        subst hE
        clear e1 e2 e3
        go_enter Try.func32, Try.ntmps32
        go_wp2
        go_ret
        exact ⟨ret_int (by omega), rfl⟩
      · have e3 : bl3 (x, 0 + 16) = (x, 0 + 16) := if_neg c3
        have hE := HB.out
        rw [e1, e2, hx, e3] at hE
        simp only at hE
        have h8 := len8_bd' (x := x) (by omega) (by omega)
        have x3 : x ≤ 255 := by omega
        have x4 : 0 ≤ x := by omega
        subst hE
        clear e1 e2 e3
        go_enter Try.func32, Try.ntmps32
        go_wp2
        go_ret
        exact ⟨ret_int (by omega), rfl⟩
    · have e2 : bl2 (n, 0) = (n, 0) := if_neg c2
      by_cases c3 : 256 ≤ n
      · have e3 : bl3 (n, 0) = (n / 256, 0 + 8) := if_pos c3
        have hE := HB.out
        rw [e1, e2, e3] at hE
        simp only at hE
        obtain ⟨y, hy⟩ : ∃ y, n / 256 = y := ⟨_, rfl⟩
        rw [hy] at hE
        have h8 := len8_bd' (x := y) (by omega) (by omega)
        have y1 : 0 ≤ y := by omega
        have y2 : y ≤ 255 := by omega
        subst hE
        clear e1 e2 e3
        go_enter Try.func32, Try.ntmps32
        go_wp2
        go_ret
        exact ⟨ret_int (by omega), rfl⟩
      · have e3 : bl3 (n, 0) = (n, 0) := if_neg c3
        have hE := HB.out
        rw [e1, e2, e3] at hE
        simp only at hE
        have h8 := len8_bd' (x := n) (by omega) (by omega)
        have x3 : n ≤ 255 := by omega
        subst hE
        clear e1 e2 e3
        go_enter Try.func32, Try.ntmps32
        go_wp2
        go_ret
        exact ⟨ret_int (by omega), rfl⟩
theorem len_ok (n : Int) (w : World) (h0 : 0 ≤ n) (h1 : n ≤ 1099511627776) :
    Calls Try.prog 29 #[.int .u64 n] w fun e w' => e = .returned (.int .i64 (bl n)) ∧ w = w' := by
  have hc := fun W => len64_ok n W h0 h1
  generalize bl n = B at *
  go_enter Try.func29, Try.ntmps29
  go_wp2_with (go_at_call 32; refine (hc _).mono ?_; rintro e w' ⟨rfl, rfl⟩)
  go_ret
  exact ⟨rfl, rfl⟩
theorem bucket_ok (n : Int) (w : World) (h0 : 0 ≤ n) (h1 : n ≤ 1099511627776) :
    Calls Try.prog 26 #[.int .i64 n] w fun e w' => e = .returned (.tuple #[.int .i64 (bl n), .int .i64 0]) ∧ w = w' := by
  have hc := fun W => len_ok n W h0 h1
  generalize bl n = B at *
  go_enter Try.func26, Try.ntmps26
  go_wp2_with (go_at_call 29; refine (hc _).mono ?_; rintro e w' ⟨rfl, rfl⟩)
  go_ret2
  exact ⟨rfl, rfl⟩
/-! ### histograms -/
def HAt (w : World) (b : Nat) (h : Nat → Int) : Prop := Blk w b 53 (tab 46 h)
theorem tab_take (h : Nat → Int) : (tab 46 h).take 42 = tab 42 h := by
  apply List.ext_getElem?
  intro i
  rw [List.getElem?_take]
  by_cases hi : i < 42
  · rw [if_pos hi, tab_get _ (by omega), tab_get _ hi]
  · rw [if_neg hi, List.getElem?_eq_none (by rw [tab_len]; omega)]
theorem HAt.buckets {w : World} {b : Nat} {h : Nat → Int} (hh : HAt w b h) : w.rangeAt b 0 (tab 42 h) := fun j v hj => by
  have hj42 : j < 42 := by have := (List.getElem?_eq_some_iff.1 hj).1; rwa [tab_len] at this
  rw [Nat.zero_add, hh.cell, tab_get _ (by omega), ← tab_get h hj42]
  exact hj
theorem empty_ok (b : Nat) (h : Nat → Int) (w : World) (hh : HAt w b h) :
    Calls Try.prog 30 #[.pointer (some ⟨b, 0, none⟩)] w fun e w' => e = .returned (.bool (emptyB h)) ∧ w = w' := by
  have hb := hh.buckets
  have he := eq_zero h
  go_enter Try.func30, Try.ntmps30
  go_wp2_with (refine wl_load 51 _ (b) (0) (tab 42 h) _ ?_ ?_ Try.underlying51 ?_ ?_ ?_; (focus rfl); (focus (exact hb)); (focus rfl); (focus kernel_rfl))
  go_ret
  exact ⟨rfl, rfl⟩
theorem count_ok (b : Nat) (h : Nat → Int) (w : World) (hh : HAt w b h) :
    Calls Try.prog 18 #[.pointer (some ⟨b, 0, none⟩)] w fun e w' => e = .returned (.int .i64 (h 42)) ∧ w = w' := by
  have hc := (Blk.cell hh 42).trans (tab_get h (by omega))
  go_enter Try.func18, Try.ntmps18
  go_wp2
  go_ret
  exact ⟨rfl, rfl⟩
theorem sum_ok (b : Nat) (h : Nat → Int) (w : World) (hh : HAt w b h) :
    Calls Try.prog 19 #[.pointer (some ⟨b, 0, none⟩)] w fun e w' => e = .returned (.int .i64 (h 43)) ∧ w = w' := by
  have hc := (Blk.cell hh 43).trans (tab_get h (by omega))
  go_enter Try.func19, Try.ntmps19
  go_wp2
  go_ret
  exact ⟨rfl, rfl⟩
theorem zeroB : (Try.prog.info? 51).map (fun i => (i.zero, i.size)) = some (some (.agg (tab 42 (fun _ => 0)).toArray), 42) := by kernel_rfl
theorem buckets_ok (b : Nat) (h : Nat → Int) (w : World) (hh : HAt w b h) :
    Calls Try.prog 20 #[.pointer (some ⟨b, 0, none⟩)] w fun e w' => e = .returned (.agg (tab 42 h).toArray) ∧ Below w.heap.size w w' := by
  have hb := hh.buckets
  have hz := (zero_of_info zeroB).1
  have h1 := all_oneCell_toArray (tab_one (n := 42) h)
  have hR := Blk.new w 51 (tab 42 h)
  have hB : Below w.heap.size w (w.alloc (.cells (tab 42 h).toArray 51)) := by (repeat' (first | (with_reducible exact Below.refl _ _) | (with_reducible assumption) | (with_reducible refine Below.alloc ?_ ?_ _) | (with_reducible refine Below.drew ?_) | (with_reducible refine below_drewN ?_ _) | (with_reducible refine Below.setCell ?_ ?_ _) | (with_reducible refine Below.trans ?_ (Below.mono (by assumption) ?_)) | (first | go_size | (with_reducible exact Below.size (by assumption)) | (with_reducible exact Nat.le_trans (Below.size (by assumption)) (Below.size (by assumption))) | (refine Nat.le_trans (Below.size (by assumption)) ?_; go_size))))
  have hb1 := World.rangeAt_alloc hb (.cells (tab 42 (fun _ => 0)).toArray 51)
  go_enter Try.func20, Try.ntmps20
  go_wp2_with (first | (refine wl_load 51 _ (b) (0) (tab 42 h) _ ?_ ?_ Try.underlying51 ?_ ?_ ?_; (focus rfl); (focus (exact hb1)); (focus rfl); (focus kernel_rfl)) | (refine wl_fresh 51 _ _ _ (tab 42 h).toArray ?_ ?_ ?_ ?_ ?_ ?_; (focus rfl); (focus rfl); (focus kernel_rfl); (focus (simp [tab_len])); (focus (exact h1))))
  refine bodyPost_ret (v := .agg (tab 42 h).toArray) (results_cell_row (p := 2) (ty := 51) (by kernel_rfl) _ _ w.heap.size 51 (tab 42 h).toArray (0, 0) _ (by rfl) hR Try.underlying51 rfl (by kernel_rfl)) rfl ⟨rfl, hB⟩
end Go.Proofs.Ythikpceckiapjaa
