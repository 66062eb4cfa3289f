/-
  The helpers of the laws of layer 51, second part: passes, even, worst, event, run, before.
-/
import Derived.Test.YthikpceckiapjaaLFair
namespace Go.Proofs.Ythikpceckiapjaa
open Go.RowKit

theorem lpasses_ok (A : Option Addr) (l : List Ev) (m c : Nat) (i want no : Int) (w : World) {G : Nat → Prop} (hr : Rd G w A (evs l)) (hl : l.length = m) (hm : m ≤ 9223372036854775806) (ho : ∀ e ∈ l, e.one) :
    Calls Try.prog 10 #[.slice A m c, .int .i64 i, .int .i64 want, .int .i64 no] w fun e w' => e = .returned (.bool ((passR l i == want) && (passE l i == no))) ∧ Below w.heap.size w w' := by
  have hc := Passed_ok A l m c i w hr hl hm ho
  generalize passR l i = R at *
  generalize passE l i = E at *
  cases h1 : R == want <;> cases h2 : E == no
  all_goals
    go_enter Try.func10, Try.ntmps10
    go_wp2_with (go_at_call 23; refine hc.mono ?_; rintro e w1 ⟨rfl, hb1⟩)
    go_ret
    exact ⟨rfl, hb1⟩
theorem leven_ok (A : Option Addr) (l : List Ev) (m c : Nat) (want no : Int) (w : World) {G : Nat → Prop} (hr : Rd G w A (evs l)) (hl : l.length = m) (hm : m ≤ 9223372036854775806) (ho : ∀ e ∈ l, e.one) :
    Calls Try.prog 11 #[.slice A m c, .int .i64 want, .int .i64 no] w fun e w' => e = .returned (.bool ((evenR l == want) && (errF l == no))) ∧ Below w.heap.size w w' := by
  have hc := Even_ok A l m c w hr hl hm ho
  generalize evenR l = R at *
  generalize errF l = E at *
  cases h1 : R == want <;> cases h2 : E == no
  all_goals
    go_enter Try.func11, Try.ntmps11
    go_wp2_with (go_at_call 15; refine hc.mono ?_; rintro e w1 ⟨rfl, hb1⟩)
    go_ret
    exact ⟨rfl, hb1⟩
theorem lworst_ok (A : Option Addr) (l : List Ev) (m c : Nat) (want no : Int) (w : World) {G : Nat → Prop} (hr : Rd G w A (evs l)) (hl : l.length = m) (hm : m ≤ 9223372036854775806) (ho : ∀ e ∈ l, e.one) :
    Calls Try.prog 12 #[.slice A m c, .int .i64 want, .int .i64 no] w fun e w' => e = .returned (.bool ((wstR l == want) && (errF l == no))) ∧ Below w.heap.size w w' := by
  have hc := Worst_ok A l m c w hr hl hm ho
  generalize wstR l = R at *
  generalize errF l = E at *
  cases h1 : R == want <;> cases h2 : E == no
  all_goals
    go_enter Try.func12, Try.ntmps12
    go_wp2_with (go_at_call 24; refine hc.mono ?_; rintro e w1 ⟨rfl, hb1⟩)
    go_ret
    exact ⟨rfl, hb1⟩
/-- an event with no request -/
def ev0 (t a w : Int) : Ev := ⟨t, a, w, .int .i64 0, .string ByteArray.empty, .string ByteArray.empty, .string ByteArray.empty, .string ByteArray.empty, .int .i64 0, .int .i64 0, .int .i64 0, .string ByteArray.empty, .slice none 0 0⟩
theorem ev0_one (t a w : Int) : (ev0 t a w).one := ⟨rfl, rfl, rfl, rfl, rfl, rfl, rfl, rfl, rfl, rfl⟩
theorem event_ok (t a u : Int) (w : World) : Calls Try.prog 7 #[.int .i64 t, .int .i64 a, .int .i64 u] w fun e w' => e = .returned (ev0 t a u).val ∧ Below w.heap.size w w' := by
  have hR := Blk.new w 33 (ev0 t a u).cells
  have hB : Below w.heap.size w (w.alloc (.cells (ev0 t a u).cells.toArray 33)) := by (repeat' (first | (with_reducible exact Below.refl _ _) | (with_reducible assumption) | (with_reducible refine Below.alloc ?_ ?_ _) | (with_reducible refine Below.drew ?_) | (with_reducible refine below_drewN ?_ _) | (with_reducible refine Below.setCell ?_ ?_ _) | (with_reducible refine Below.trans ?_ (Below.mono (by assumption) ?_)) | (first | go_size | (with_reducible exact Below.size (by assumption)) | (with_reducible exact Nat.le_trans (Below.size (by assumption)) (Below.size (by assumption))) | (refine Nat.le_trans (Below.size (by assumption)) ?_; go_size))))
  have h1 := all_oneCell_toArray (Ev.all_one (ev0_one t a u))
  go_enter Try.func7, Try.ntmps7
  go_wp2_with (refine wl_fresh 33 _ _ _ (ev0 t a u).cells.toArray ?_ ?_ ?_ ?_ ?_ ?_; (focus rfl); (focus rfl); (focus kernel_rfl); (focus rfl); (focus (exact h1)))
  refine bodyPost_ret (v := (ev0 t a u).val) (results_cell_row (p := 6) (ty := 33) (by kernel_rfl) _ _ w.heap.size 33 (ev0 t a u).cells.toArray (0, 0) _ (by rfl) hR Try.underlying33 rfl (by kernel_rfl)) rfl ⟨rfl, hB⟩
set_option maxHeartbeats 2000000 in
theorem run_ok (A : Option Addr) (l : List Ev) (m c : Nat) (w : World) {G : Nat → Prop} (hr : Rd G w A (evs l)) (hl : l.length = m) (hm : m ≤ 9223372036854775806) (ho : ∀ e ∈ l, e.one) :
    Calls Try.prog 14 #[.slice A m c] w fun e w' => e = .returned (.bool (l.all okEv)) ∧ Below w.heap.size w w' := by
  subst hl
  have HE := Lib.hid (show l.all okEv = true ↔ ∀ e ∈ l, okEv e = true from List.all_eq_true)
  generalize l.all okEv = E at *
  go_enter Try.func14, Try.ntmps14
  go_wp2
  go_loopw [3] (fun v3 wr => ∃ k : Nat, k ≤ l.length ∧ v3 = .int .i64 k ∧ (l.take k).all okEv = true ∧ Below w.heap.size w wr) (fun v _ => l.length - (intOf v).toNat)
  case atStart => exact ⟨0, Nat.zero_le _, rfl, rfl, Below.refl _ _⟩
  case round =>
    obtain ⟨k, hk, rfl, hall, hb⟩ := hrel
    have HA := Lib.hid hall
    clear hall
    by_cases hlt : k < l.length
    · obtain ⟨y, hy⟩ : ∃ y, l[k]? = some y := ⟨_, List.getElem?_eq_getElem hlt⟩
      obtain ⟨b, o, rfl, _, hbl, hcell⟩ := rd_ev (hr.keep (Ch.of_below hb (fun _ => False)) (fun _ _ _ e => e)) hy
      have HY := Lib.hid hy
      have HO := Lib.hid (all_oneCell_toArray (Ev.all_one (ho y (List.mem_of_getElem? hy))))
      have HK := Lib.hid (okEv_iff (e := y))
      clear hy
      obtain ⟨yt, ya, yw, n1, n2, n3, n4, n5, n6, n7, n8, n9, n10⟩ := y
      simp only [Ev.cells] at hcell HO
      have i1 : (0 : Int) ≤ k := Int.natCast_nonneg _
      have i2 : (k : Int) < l.length := by omega
      go_upto_region 5 with (first | (refine wl_load 33 _ (b) (o + k * 13) ([.int .i64 yt, n1, n2, n3, n4, n5, n6, n7, n8, n9, n10, .int .i64 ya, .int .i64 yw]) _ ?_ ?_ Try.underlying33 ?_ ?_ ?_; (focus rfl); (focus (exact hcell)); (focus rfl); (focus kernel_rfl)) | (refine wl_fresh 33 _ _ _ ([.int .i64 yt, n1, n2, n3, n4, n5, n6, n7, n8, n9, n10, .int .i64 ya, .int .i64 yw].toArray) ?_ ?_ ?_ ?_ ?_ ?_; (focus rfl); (focus rfl); (focus kernel_rfl); (focus rfl); (focus (exact HO.out))))
      clear hcell HO
      have hk2 := HK.out
      simp only at hk2
      by_cases hok : okEv ⟨yt, ya, yw, n1, n2, n3, n4, n5, n6, n7, n8, n9, n10⟩ = true
      · have hall := all_take HA.out HY.out hok
        have HALL := Lib.hid hall
        obtain ⟨q1, q2, q3, q4, q5⟩ := hk2.1 hok
        clear hok hk2 hall
        rcases q5 with rfl | ⟨q5, q6⟩
        · go_wp2_with fail
          go_roundw
          case rel => exact ⟨k + 1, by omega, by go_num, HALL.out, by (repeat' (first | (with_reducible exact Below.refl _ _) | (with_reducible assumption) | (with_reducible refine Below.alloc ?_ ?_ _) | (with_reducible refine Below.drew ?_) | (with_reducible refine below_drewN ?_ _) | (with_reducible refine Below.setCell ?_ ?_ _) | (with_reducible refine Below.trans ?_ (Below.mono (by assumption) ?_)) | (first | go_size | (with_reducible exact Below.size (by assumption)) | (with_reducible exact Nat.le_trans (Below.size (by assumption)) (Below.size (by assumption))) | (refine Nat.le_trans (Below.size (by assumption)) ?_; go_size))))⟩
          case measure => simp [intOf]; omega
        · go_wp2_with fail
          go_roundw
          case rel => exact ⟨k + 1, by omega, by go_num, HALL.out, by (repeat' (first | (with_reducible exact Below.refl _ _) | (with_reducible assumption) | (with_reducible refine Below.alloc ?_ ?_ _) | (with_reducible refine Below.drew ?_) | (with_reducible refine below_drewN ?_ _) | (with_reducible refine Below.setCell ?_ ?_ _) | (with_reducible refine Below.trans ?_ (Below.mono (by assumption) ?_)) | (first | go_size | (with_reducible exact Below.size (by assumption)) | (with_reducible exact Nat.le_trans (Below.size (by assumption)) (Below.size (by assumption))) | (refine Nat.le_trans (Below.size (by assumption)) ?_; go_size))))⟩
          case measure => simp [intOf]; omega
      · have hq : ¬ (0 ≤ yt ∧ yt ≤ 63 ∧ 0 ≤ ya ∧ ya ≤ 1099511627776 ∧ (yw = -1 ∨ (ya ≤ yw ∧ yw ≤ 1099511627776))) := fun h => hok (hk2.2 h)
        have hE : E = false := by
          rw [← Bool.not_eq_true, HE.out]
          exact fun h => hok (h _ (List.mem_of_getElem? HY.out))
        have HQ := Lib.hid hq
        clear hq hok hk2
        subst hE
        go_wp2_with fail
        all_goals first
          | (go_ret; exact ⟨rfl, by (repeat' (first | (with_reducible exact Below.refl _ _) | (with_reducible assumption) | (with_reducible refine Below.alloc ?_ ?_ _) | (with_reducible refine Below.drew ?_) | (with_reducible refine below_drewN ?_ _) | (with_reducible refine Below.setCell ?_ ?_ _) | (with_reducible refine Below.trans ?_ (Below.mono (by assumption) ?_)) | (first | go_size | (with_reducible exact Below.size (by assumption)) | (with_reducible exact Nat.le_trans (Below.size (by assumption)) (Below.size (by assumption))) | (refine Nat.le_trans (Below.size (by assumption)) ?_; go_size))))⟩)
          | (exfalso; have := HQ.out; first | omega | (simp_all; done) | (simp_all; omega))
    · obtain rfl : k = l.length := by omega
      have hE : E = true := by rw [HE.out]; have := HA.out; rw [List.take_length] at this; exact List.all_eq_true.1 this
      subst hE
      go_wp2
      go_ret
      exact ⟨rfl, hb⟩
set_option maxHeartbeats 1000000 in
theorem before_ok (y x : Ev) (w : World) (hx : okEv x = true) :
    Calls Try.prog 16 #[y.val, x.val] w fun e w' => e = .returned (.bool (psB y x)) ∧ Below w.heap.size w w' := by
  have hk := (okEv_iff.1 hx).2.2
  have HP := Lib.hid (psB_iff (y := y) (x := x))
  generalize psB y x = B at *
  clear hx
  obtain ⟨yt, ya, yw, n1, n2, n3, n4, n5, n6, n7, n8, n9, n10⟩ := y
  obtain ⟨xt, xa, xw, m1, m2, m3, m4, m5, m6, m7, m8, m9, m10⟩ := x
  simp only [Ev.val, Ev.cells] at hk ⊢
  have hP := HP.out
  simp only at hP
  have HP2 := Lib.hid hP
  have HKK := Lib.hid hk
  clear hP HP hk
  go_enter Try.func16, Try.ntmps16
  go_wp2_with fail
  all_goals
    go_ret
    refine ⟨ret_bool ?_, by (repeat' (first | (with_reducible exact Below.refl _ _) | (with_reducible assumption) | (with_reducible refine Below.alloc ?_ ?_ _) | (with_reducible refine Below.drew ?_) | (with_reducible refine below_drewN ?_ _) | (with_reducible refine Below.setCell ?_ ?_ _) | (with_reducible refine Below.trans ?_ (Below.mono (by assumption) ?_)) | (first | go_size | (with_reducible exact Below.size (by assumption)) | (with_reducible exact Nat.le_trans (Below.size (by assumption)) (Below.size (by assumption))) | (refine Nat.le_trans (Below.size (by assumption)) ?_; go_size))))⟩
    have hP := HP2.out
    have hk := HKK.out
    cases B
    · simp only [Bool.false_eq_true, false_iff] at hP
      first | rfl | (exfalso; omega) | (simp; omega)
    · simp only [true_iff] at hP
      first | rfl | (exfalso; omega) | (simp; omega)
end Go.Proofs.Ythikpceckiapjaa
