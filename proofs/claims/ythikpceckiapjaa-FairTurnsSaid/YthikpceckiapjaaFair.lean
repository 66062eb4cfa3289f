/-
  Contracts of package fair, first part: check, took, passed.
-/
import Derived.Test.YthikpceckiapjaaFairEv
import Derived.Deep.WholeRow
import Derived.Deep.DeepCutAuto
import Derived.IntWalk
namespace Go.Proofs.Ythikpceckiapjaa
open Go.RowKit

theorem took_ok (e : Ev) (w : World) (h : okEv e = true) :
    Calls Try.prog 22 #[e.val] w fun x w' => x = .returned (.tuple #[.int .i64 (e.w - e.a), .bool (decide (0 ≤ e.w))]) ∧ Below w.heap.size w w' := by
  have hk := okEv_iff.1 h
  obtain ⟨t, a, u, m1, m2, m3, m4, m5, m6, m7, m8, m9, m10⟩ := e
  simp only [Ev.val, Ev.cells] at hk ⊢
  clear h
  go_enter Try.func22, Try.ntmps22
  go_wp2
  go_quiet (fail)
  go_wp2
  go_ret2
  exact ⟨rfl, by (repeat' (first | (with_reducible exact Below.refl _ _) | (with_reducible assumption) | (with_reducible refine Below.alloc ?_ ?_ _) | (with_reducible refine Below.drew ?_) | (with_reducible refine below_drewN ?_ _) | (with_reducible refine Below.setCell ?_ ?_ _) | (with_reducible refine Below.trans ?_ (Below.mono (by assumption) ?_)) | (first | go_size | (with_reducible exact Below.size (by assumption)) | (with_reducible exact Nat.le_trans (Below.size (by assumption)) (Below.size (by assumption))) | (refine Nat.le_trans (Below.size (by assumption)) ?_; go_size))))⟩
theorem pas_snoc (l : List Ev) (y x : Ev) : pas (l ++ [y]) x = pas l x + if psB y x = true then 1 else 0 := by simp [pas, List.countP_append, List.countP_cons]
set_option maxHeartbeats 1000000 in
theorem passed_ok (A : Option Addr) (l : List Ev) (m c : Nat) (x : Ev) (w : World) {G : Nat → Prop} (hr : Rd G w A (evs l)) (hl : l.length = m) (hm : m ≤ 1000000) (ho : ∀ e ∈ l, e.one) :
    Calls Try.prog 28 #[.slice A m c, x.val] w fun e w' => e = .returned (.int .i64 (pas l x)) ∧ Below w.heap.size w w' := by
  subst hl
  obtain ⟨xt, xa, xw, m1, m2, m3, m4, m5, m6, m7, m8, m9, m10⟩ := x
  simp only [Ev.val, Ev.cells]
  have hX := Blk.new w 33 [.int .i64 xt, m1, m2, m3, m4, m5, m6, m7, m8, m9, m10, .int .i64 xa, .int .i64 xw]
  go_enter Try.func28, Try.ntmps28
  go_wp2
  have hB0 : Below w.heap.size w (w.alloc (.cells #[.int .i64 xt, m1, m2, m3, m4, m5, m6, m7, m8, m9, m10, .int .i64 xa, .int .i64 xw] 33)) := by (repeat' (first | (with_reducible exact Below.refl _ _) | (with_reducible assumption) | (with_reducible refine Below.alloc ?_ ?_ _) | (with_reducible refine Below.drew ?_) | (with_reducible refine below_drewN ?_ _) | (with_reducible refine Below.setCell ?_ ?_ _) | (with_reducible refine Below.trans ?_ (Below.mono (by assumption) ?_)) | (first | go_size | (with_reducible exact Below.size (by assumption)) | (with_reducible exact Nat.le_trans (Below.size (by assumption)) (Below.size (by assumption))) | (refine Nat.le_trans (Below.size (by assumption)) ?_; go_size))))
  have hz0 : (w.alloc (.cells #[.int .i64 xt, m1, m2, m3, m4, m5, m6, m7, m8, m9, m10, .int .i64 xa, .int .i64 xw] 33)).heap.size = w.heap.size + 1 := World.size_alloc _ _
  generalize w.alloc (.cells #[.int .i64 xt, m1, m2, m3, m4, m5, m6, m7, m8, m9, m10, .int .i64 xa, .int .i64 xw] 33) = w1 at hX hB0 hz0 ⊢
  go_loopw [5, 10] (fun v5 v10 wr => ∃ k : Nat, k ≤ l.length ∧ v10 = .int .i64 k ∧ v5 = .int .i64 (pas (l.take k) ⟨xt, xa, xw, m1, m2, m3, m4, m5, m6, m7, m8, m9, m10⟩) ∧ Below w1.heap.size w1 wr) (fun _ v _ => l.length - (intOf v).toNat)
  case atStart => exact ⟨0, Nat.zero_le _, rfl, rfl, Below.refl _ _⟩
  case round =>
    obtain ⟨k, hk, rfl, rfl, hb⟩ := hrel
    have hXr := hX.keep (Ch.of_below hb (fun _ => False)) (fun e => e)
    by_cases hlt : k < l.length
    · obtain ⟨y, hy⟩ : ∃ y, l[k]? = some y := ⟨_, List.getElem?_eq_getElem hlt⟩
      obtain ⟨b, o, rfl, _, hbl, hcell⟩ := rd_ev (hr.keep (Ch.of_below (hB0.trans (hb.mono (by omega))) (fun _ => False)) (fun _ _ _ e => e)) hy
      have hsn := pas_snoc (l.take k) y ⟨xt, xa, xw, m1, m2, m3, m4, m5, m6, m7, m8, m9, m10⟩
      rw [← take_snoc l k y hy] at hsn
      have hpl := pas_le (l.take k) ⟨xt, xa, xw, m1, m2, m3, m4, m5, m6, m7, m8, m9, m10⟩
      have hpl2 : (l.take k).length ≤ k := List.length_take_le _ _
      generalize pas (l.take k) ⟨xt, xa, xw, m1, m2, m3, m4, m5, m6, m7, m8, m9, m10⟩ = q at *
      have HS := Lib.hid hsn
      have x3 := hXr.cell 11
      have x4 := hXr.cell 12
      have hone := all_oneCell_toArray (Ev.all_one (ho y (List.mem_of_getElem? hy)))
      obtain ⟨yt, ya, yw, n1, n2, n3, n4, n5, n6, n7, n8, n9, n10⟩ := y
      simp only [Ev.cells] at hcell hone
      have HO := Lib.hid hone
      clear hone
      have i1 : (0 : Int) ≤ k := Int.natCast_nonneg _
      have i2 : (k : Int) < l.length := by omega
      clear hsn hy hXr
      simp only [List.getElem?_cons_succ, List.getElem?_cons_zero] at x3 x4
      have hzr := hb.size
      have g1 : w.heap.size < wr.heap.size := by omega
      go_upto_region 5 with (first | (refine wl_load 33 _ (b) (o + k * 13) ([.int .i64 yt, n1, n2, n3, n4, n5, n6, n7, n8, n9, n10, .int .i64 ya, .int .i64 yw]) _ ?_ ?_ Try.underlying33 ?_ ?_ ?_; (focus rfl); (focus (exact hcell)); (focus rfl); (focus kernel_rfl)) | (refine wl_fresh 33 _ _ _ ([.int .i64 yt, n1, n2, n3, n4, n5, n6, n7, n8, n9, n10, .int .i64 ya, .int .i64 yw].toArray) ?_ ?_ ?_ ?_ ?_ ?_; (focus rfl); (focus rfl); (focus kernel_rfl); (focus rfl); (focus (exact HO.out))))
      clear hcell HO
      go_wp2_with fail
      all_goals
        go_roundw
        case rel => exact ⟨k + 1, by omega, by go_num, val_int (by rw [HS.out]; first | (rw [if_pos (psB_iff.2 (by simp only; omega))]; omega) | (rw [if_neg (fun h => (by have := psB_iff.1 h; simp only at this; omega))]; omega)), by (repeat' (first | (with_reducible exact Below.refl _ _) | (with_reducible assumption) | (with_reducible refine Below.alloc ?_ ?_ _) | (with_reducible refine Below.drew ?_) | (with_reducible refine below_drewN ?_ _) | (with_reducible refine Below.setCell ?_ ?_ _) | (with_reducible refine Below.trans ?_ (Below.mono (by assumption) ?_)) | (first | go_size | (with_reducible exact Below.size (by assumption)) | (with_reducible exact Nat.le_trans (Below.size (by assumption)) (Below.size (by assumption))) | (refine Nat.le_trans (Below.size (by assumption)) ?_; go_size))))⟩
        case measure => simp [intOf]; omega
    · obtain rfl : k = l.length := by omega
      rw [List.take_length]
      go_wp2
      go_ret
      exact ⟨rfl, hB0.trans (hb.mono (by omega))⟩
def errF (l : List Ev) : Int := if 1000 < l.length then 5 else if l.all okEv = true then 0 else 2
theorem all_take {l : List Ev} {k : Nat} {y : Ev} (h : (l.take k).all okEv = true) (hy : l[k]? = some y) (ho : okEv y = true) : (l.take (k + 1)).all okEv = true := by
  rw [take_snoc l k y hy, List.all_append, h]; simp [ho]
set_option maxHeartbeats 2000000 in
theorem check_ok (A : Option Addr) (l : List Ev) (m c : Nat) (w : World) {G : Nat → Prop} (hr : Rd G w A (evs l)) (hl : l.length = m) (hm : m ≤ 9223372036854775806) (ho : ∀ e ∈ l, e.one) :
    Calls Try.prog 21 #[.slice A m c] w fun e w' => e = .returned (.int .i64 (errF l)) ∧ Below w.heap.size w w' := by
  subst hl
  by_cases hlong : 1000 < l.length
  · have d1 : decide (1000 < (l.length : Int)) = true := decide_eq_true (by omega)
    have he : errF l = 5 := if_pos hlong
    rw [he]
    go_enter Try.func21, Try.ntmps21
    go_wp2
    go_ret
    exact ⟨rfl, Below.refl _ _⟩
  have d1 : decide (1000 < (l.length : Int)) = false := decide_eq_false (by omega)
  have he : errF l = if l.all okEv = true then 0 else 2 := if_neg hlong
  have HE := Lib.hid he
  clear he
  generalize errF l = E at *
  go_enter Try.func21, Try.ntmps21
  go_wp2
  clear d1
  go_loopw [10] (fun v10 wr => ∃ k : Nat, k ≤ l.length ∧ v10 = .int .i64 k ∧ (l.take k).all okEv = true ∧ Below w.heap.size w wr) (fun v _ => l.length - (intOf v).toNat)
  case atStart => exact ⟨0, Nat.zero_le _, rfl, rfl, Below.refl _ _⟩
  case round =>
    obtain ⟨k, hk, rfl, hall, hb⟩ := hrel
    have HA := Lib.hid hall
    clear hall
    by_cases hlt : k < l.length
    · obtain ⟨y, hy⟩ : ∃ y, l[k]? = some y := ⟨_, List.getElem?_eq_getElem hlt⟩
      obtain ⟨b, o, rfl, _, hbl, hcell⟩ := rd_ev (hr.keep (Ch.of_below hb (fun _ => False)) (fun _ _ _ e => e)) hy
      have HY := Lib.hid hy
      have HO := Lib.hid (all_oneCell_toArray (Ev.all_one (ho y (List.mem_of_getElem? hy))))
      have HK := Lib.hid (okEv_iff (e := y))
      clear hy
      obtain ⟨yt, ya, yw, n1, n2, n3, n4, n5, n6, n7, n8, n9, n10⟩ := y
      simp only [Ev.cells] at hcell HO
      have i1 : (0 : Int) ≤ k := Int.natCast_nonneg _
      have i2 : (k : Int) < l.length := by omega
      go_upto_region 6 with (first | (refine wl_load 33 _ (b) (o + k * 13) ([.int .i64 yt, n1, n2, n3, n4, n5, n6, n7, n8, n9, n10, .int .i64 ya, .int .i64 yw]) _ ?_ ?_ Try.underlying33 ?_ ?_ ?_; (focus rfl); (focus (exact hcell)); (focus rfl); (focus kernel_rfl)) | (refine wl_fresh 33 _ _ _ ([.int .i64 yt, n1, n2, n3, n4, n5, n6, n7, n8, n9, n10, .int .i64 ya, .int .i64 yw].toArray) ?_ ?_ ?_ ?_ ?_ ?_; (focus rfl); (focus rfl); (focus kernel_rfl); (focus rfl); (focus (exact HO.out))))
      clear hcell HO
      have hk2 := HK.out
      simp only at hk2
      by_cases hok : okEv ⟨yt, ya, yw, n1, n2, n3, n4, n5, n6, n7, n8, n9, n10⟩ = true
      · have hall := all_take HA.out HY.out hok
        have HALL := Lib.hid hall
        obtain ⟨q1, q2, q3, q4, q5⟩ := hk2.1 hok
        clear hok hk2 hall
        rcases q5 with rfl | ⟨q5, q6⟩
        · go_wp2_with fail
          go_roundw
          case rel => exact ⟨k + 1, by omega, by go_num, HALL.out, by (repeat' (first | (with_reducible exact Below.refl _ _) | (with_reducible assumption) | (with_reducible refine Below.alloc ?_ ?_ _) | (with_reducible refine Below.drew ?_) | (with_reducible refine below_drewN ?_ _) | (with_reducible refine Below.setCell ?_ ?_ _) | (with_reducible refine Below.trans ?_ (Below.mono (by assumption) ?_)) | (first | go_size | (with_reducible exact Below.size (by assumption)) | (with_reducible exact Nat.le_trans (Below.size (by assumption)) (Below.size (by assumption))) | (refine Nat.le_trans (Below.size (by assumption)) ?_; go_size))))⟩
          case measure => simp [intOf]; omega
        · go_wp2_with fail
          go_roundw
          case rel => exact ⟨k + 1, by omega, by go_num, HALL.out, by (repeat' (first | (with_reducible exact Below.refl _ _) | (with_reducible assumption) | (with_reducible refine Below.alloc ?_ ?_ _) | (with_reducible refine Below.drew ?_) | (with_reducible refine below_drewN ?_ _) | (with_reducible refine Below.setCell ?_ ?_ _) | (with_reducible refine Below.trans ?_ (Below.mono (by assumption) ?_)) | (first | go_size | (with_reducible exact Below.size (by assumption)) | (with_reducible exact Nat.le_trans (Below.size (by assumption)) (Below.size (by assumption))) | (refine Nat.le_trans (Below.size (by assumption)) ?_; go_size))))⟩
          case measure => simp [intOf]; omega
      · have hq : ¬ (0 ≤ yt ∧ yt ≤ 63 ∧ 0 ≤ ya ∧ ya ≤ 1099511627776 ∧ (yw = -1 ∨ (ya ≤ yw ∧ yw ≤ 1099511627776))) := fun h => hok (hk2.2 h)
        have hE : E = 2 := by
          rw [HE.out, if_neg]
          intro ha
          exact hok (List.all_eq_true.1 ha _ (List.mem_of_getElem? HY.out))
        have HQ := Lib.hid hq
        clear hq hok hk2
        subst hE
        go_wp2_with fail
        all_goals first
          | (go_ret; exact ⟨rfl, by (repeat' (first | (with_reducible exact Below.refl _ _) | (with_reducible assumption) | (with_reducible refine Below.alloc ?_ ?_ _) | (with_reducible refine Below.drew ?_) | (with_reducible refine below_drewN ?_ _) | (with_reducible refine Below.setCell ?_ ?_ _) | (with_reducible refine Below.trans ?_ (Below.mono (by assumption) ?_)) | (first | go_size | (with_reducible exact Below.size (by assumption)) | (with_reducible exact Nat.le_trans (Below.size (by assumption)) (Below.size (by assumption))) | (refine Nat.le_trans (Below.size (by assumption)) ?_; go_size))))⟩)
          | (exfalso; have := HQ.out; simp_all; omega)
    · obtain rfl : k = l.length := by omega
      have hE : E = 0 := by rw [HE.out, if_pos]; have := HA.out; rwa [List.take_length] at this
      subst hE
      go_wp2
      go_ret
      exact ⟨rfl, hb⟩
end Go.Proofs.Ythikpceckiapjaa
