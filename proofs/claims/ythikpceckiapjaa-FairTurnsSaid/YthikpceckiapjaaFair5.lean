/-
  Contracts of package fair, fifth part: Times.
-/
import Derived.Test.YthikpceckiapjaaFairH4
namespace Go.Proofs.Ythikpceckiapjaa
open Go.RowKit

theorem tks_ok {l : List Ev} (h : ∀ e ∈ l, okEv e = true) : ∀ n ∈ tks l, 0 ≤ n ∧ n ≤ 1099511627776 := by
  intro n hn
  unfold tks at hn
  obtain ⟨e, he, rfl⟩ := List.mem_map.1 hn
  obtain ⟨h1, h2⟩ := List.mem_filter.1 he
  have := okEv_iff.1 (h e h1)
  simp at h2
  omega
/-- the histogram of the times, or none, and an error -/
def TimesP (w : World) (l : List Ev) (e : Ending) (w' : World) : Prop :=
  Below w.heap.size w w' ∧ ((errF l ≠ 0 ∧ e = .returned (.tuple #[.pointer none, .int .i64 (errF l)])) ∨ (errF l = 0 ∧ ∃ b, w.heap.size ≤ b ∧ e = .returned (.tuple #[.pointer (some ⟨b, 0, none⟩), .int .i64 0]) ∧ HAt w' b (histF (tks l))))
set_option maxRecDepth 100000 in
set_option maxHeartbeats 4000000 in
theorem Times_ok (A : Option Addr) (l : List Ev) (m c : Nat) (w : World) {G : Nat → Prop} (hr : Rd G w A (evs l)) (hl : l.length = m) (hm : m ≤ 9223372036854775806) (ho : ∀ e ∈ l, e.one) :
    Calls Try.prog 8 #[.slice A m c] w (TimesP w l) := by
  have hc := fun W hR => check_ok A l m c W (G := G) hR hl hm ho
  subst hl
  by_cases he : errF l = 0
  · obtain ⟨h1, h2⟩ := errF_zero he
    have HFIN := Lib.hid (show ∀ b w', Below w.heap.size w w' → w.heap.size ≤ b → HAt w' b (histF (tks l)) → TimesP w l (.returned (.tuple #[.pointer (some ⟨b, 0, none⟩), .int .i64 0])) w' from fun b w' x y z => ⟨x, .inr ⟨he, b, y, rfl, z⟩⟩)
    rw [he] at hc
    have H2 := Lib.hid h2
    clear he h2
    go_enter Try.func8, Try.ntmps8
    go_wp2_with fail
    refine (hc _ hr).mono ?_
    rintro e w1 ⟨rfl, hb1⟩
    clear hc
    go_upto_region 6 with (refine wl_build 53 _ (tab 46 (fun _ => 0)).toArray ?_ ?_; (focus kernel_rfl))
    have hH0 : HAt (w1.alloc (.cells (tab 46 (fun _ => 0)).toArray 53)) w1.heap.size (histF (tks (l.take 0))) := Blk.new w1 _ _
    have hB0 : Below w.heap.size w (w1.alloc (.cells (tab 46 (fun _ => 0)).toArray 53)) := by (repeat' (first | (with_reducible exact Below.refl _ _) | (with_reducible assumption) | (with_reducible refine Below.alloc ?_ ?_ _) | (with_reducible refine Below.drew ?_) | (with_reducible refine below_drewN ?_ _) | (with_reducible refine Below.setCell ?_ ?_ _) | (with_reducible refine Below.trans ?_ (Below.mono (by assumption) ?_)) | (first | go_size | (with_reducible exact Below.size (by assumption)) | (with_reducible exact Nat.le_trans (Below.size (by assumption)) (Below.size (by assumption))) | (refine Nat.le_trans (Below.size (by assumption)) ?_; go_size))))
    have hz0 := hb1.size
    generalize w1.alloc (.cells (tab 46 (fun _ => 0)).toArray 53) = w2 at hH0 hB0 ⊢
    go_loopw [20] (fun v20 wr => ∃ k : Nat, k ≤ l.length ∧ v20 = .int .i64 k ∧ HAt wr w1.heap.size (histF (tks (l.take k))) ∧ Below w.heap.size w wr) (fun v _ => l.length - (intOf v).toNat)
    case atStart => exact ⟨0, Nat.zero_le _, rfl, hH0, hB0⟩
    case round =>
      clear hH0 hB0
      obtain ⟨k, hk, rfl, hH, hb⟩ := hrel
      by_cases hlt : k < l.length
      · obtain ⟨y, hy⟩ : ∃ y, l[k]? = some y := ⟨_, List.getElem?_eq_getElem hlt⟩
        have hym := List.mem_of_getElem? hy
        obtain ⟨b, o, rfl, _, hbl, hcell⟩ := rd_ev (hr.keep (Ch.of_below hb (fun _ => False)) (fun _ _ _ e => e)) hy
        have hok := List.all_eq_true.1 H2.out y hym
        have htook := fun W => took_ok y W hok
        have HO := Lib.hid (all_oneCell_toArray (Ev.all_one (ho y hym)))
        have hsn := tks_snoc (l.take k) y
        rw [← take_snoc l k y hy] at hsn
        have hokt : ∀ e ∈ l.take k, okEv e = true := fun e he => List.all_eq_true.1 H2.out e (List.mem_of_mem_take he)
        have htl := tks_len (l.take k)
        rw [List.length_take] at htl
        obtain ⟨q1, q2, q3, q4, q5⟩ := okEv_iff.1 hok
        have hadd := fun n W hW => hadd_ok w1.heap.size (tks (l.take k)) n W hW (by omega) (tks_ok hokt)
        generalize tks (l.take k) = xs at *
        obtain ⟨yt, ya, yw, n1, n2, n3, n4, n5, n6, n7, n8, n9, n10⟩ := y
        simp only [Ev.cells] at hcell HO
        simp only [Ev.val, Ev.cells] at htook
        simp only at hsn q1 q2 q3 q4 q5
        have HS := Lib.hid hsn
        have i1 : (0 : Int) ≤ k := Int.natCast_nonneg _
        have i2 : (k : Int) < l.length := by omega
        have hyw : yw - ya ≤ 1099511627776 := by omega
        have hyw2 : -1099511627777 ≤ yw - ya := by omega
        clear hsn hy hok hokt
        have hzr := hb.size
        go_upto_region 9 with (first | (refine wl_load 33 _ (b) (o + k * 13) ([.int .i64 yt, n1, n2, n3, n4, n5, n6, n7, n8, n9, n10, .int .i64 ya, .int .i64 yw]) _ ?_ ?_ Try.underlying33 ?_ ?_ ?_; (focus rfl); (focus (exact hcell)); (focus rfl); (focus kernel_rfl)) | (refine wl_fresh 33 _ _ _ ([.int .i64 yt, n1, n2, n3, n4, n5, n6, n7, n8, n9, n10, .int .i64 ya, .int .i64 yw].toArray) ?_ ?_ ?_ ?_ ?_ ?_; (focus rfl); (focus rfl); (focus kernel_rfl); (focus rfl); (focus (exact HO.out))) | (refine wl_load 33 _ (wr.heap.size) (0) ([.int .i64 yt, n1, n2, n3, n4, n5, n6, n7, n8, n9, n10, .int .i64 ya, .int .i64 yw]) _ ?_ ?_ Try.underlying33 ?_ ?_ ?_; (focus rfl); (focus (exact range_blk (Blk.new _ _ _))); (focus rfl); (focus kernel_rfl)) | (go_at_call 22; refine (htook _).mono ?_; rintro e w5 ⟨rfl, hB5⟩))
        have hbr5 : Below wr.heap.size wr w5 := Below.trans (by (repeat' (first | (with_reducible exact Below.refl _ _) | (with_reducible assumption) | (with_reducible refine Below.alloc ?_ ?_ _) | (with_reducible refine Below.drew ?_) | (with_reducible refine below_drewN ?_ _) | (with_reducible refine Below.setCell ?_ ?_ _) | (with_reducible refine Below.trans ?_ (Below.mono (by assumption) ?_)) | (first | go_size | (with_reducible exact Below.size (by assumption)) | (with_reducible exact Nat.le_trans (Below.size (by assumption)) (Below.size (by assumption))) | (refine Nat.le_trans (Below.size (by assumption)) ?_; go_size))))) (hB5.mono (by simp))
        have hH5 : HAt w5 w1.heap.size (histF xs) := HAt.keep hH (Ch.of_below hbr5 (fun _ => False)) (fun e => e)
        have hB5' : Below w.heap.size w w5 := hb.trans (hbr5.mono hzr)
        clear hbr5
        clear hcell HO htook hH hB5
        by_cases hw : 0 ≤ yw
        · have dw : decide (0 ≤ yw) = true := decide_eq_true hw
          have h3 := HS.out
          rw [if_pos hw] at h3
          have H3 := Lib.hid h3
          have ha := hadd (yw - ya) w5 hH5 (by omega) (by omega)
          clear h3 HS hadd q5
          go_wp2_with (go_at_call 17; refine ha.mono ?_; rintro e w6 ⟨rfl, hH6, hC6⟩)
          go_roundw
          case rel => exact ⟨k + 1, by omega, by go_num, by rw [H3.out]; exact hH6, hB5'.trans (hC6.below (fun j _ e => by omega) hB5'.size)⟩
          case measure => simp [intOf]; omega
        · have dw : decide (0 ≤ yw) = false := decide_eq_false hw
          have h3 := HS.out
          rw [if_neg hw] at h3
          have H3 := Lib.hid h3
          clear h3 HS hadd q5
          go_wp2_with fail
          go_roundw
          case rel => exact ⟨k + 1, by omega, by go_num, by rw [H3.out]; exact hH5, hB5'⟩
          case measure => simp [intOf]; omega
      · obtain rfl : k = l.length := by omega
        rw [List.take_length] at hH
        go_wp2_with fail
        go_ret2
        exact HFIN.out _ _ hb hz0 hH
  · have HFIN := Lib.hid (show ∀ w', Below w.heap.size w w' → TimesP w l (.returned (.tuple #[.pointer none, .int .i64 (errF l)])) w' from fun w' x => ⟨x, .inl ⟨he, rfl⟩⟩)
    generalize errF l = E at *
    have d1 : (E == 0) = false := by rw [beq_eq_false_iff_ne]; exact he
    have d2 : (E != 0) = true := by rw [bne_iff_ne]; exact he
    clear he
    go_enter Try.func8, Try.ntmps8
    go_wp2_with fail
    refine (hc _ hr).mono ?_
    rintro e w1 ⟨rfl, hb1⟩
    clear hc
    go_wp2_with fail
    go_ret2
    exact HFIN.out _ hb1
end Go.Proofs.Ythikpceckiapjaa
