/-
  Contracts of package fair, fourth part: Passed, Even, Worst.
-/
import Derived.Test.YthikpceckiapjaaFair3
namespace Go.Proofs.Ythikpceckiapjaa
open Go.RowKit

theorem errF_zero {l : List Ev} (h : errF l = 0) : l.length ≤ 1000 ∧ l.all okEv = true := by
  unfold errF at h
  split at h
  · cases h
  · split at h
    · exact ⟨by omega, by assumption⟩
    · cases h
theorem errF_bd (l : List Ev) : 0 ≤ errF l ∧ errF l ≤ 5 := by unfold errF; (repeat' split) <;> omega
def passN (l : List Ev) (i : Int) : Int := match l[i.toNat]? with | some x => pas l x | none => 0
def passE (l : List Ev) (i : Int) : Int := if errF l ≠ 0 then errF l else if i < 0 ∨ (l.length : Int) ≤ i then 3 else 0
def passR (l : List Ev) (i : Int) : Int := if passE l i ≠ 0 then 0 else passN l i
set_option maxHeartbeats 1000000 in
theorem Passed_ok (A : Option Addr) (l : List Ev) (m c : Nat) (i : Int) (w : World) {G : Nat → Prop} (hr : Rd G w A (evs l)) (hl : l.length = m) (hm : m ≤ 9223372036854775806) (ho : ∀ e ∈ l, e.one) :
    Calls Try.prog 23 #[.slice A m c, .int .i64 i] w fun e w' => e = .returned (.tuple #[.int .i64 (passR l i), .int .i64 (passE l i)]) ∧ Below w.heap.size w w' := by
  have hc := fun W hR => check_ok A l m c W (G := G) hR hl hm ho
  subst hl
  by_cases he : errF l = 0
  · obtain ⟨h1, h2⟩ := errF_zero he
    rw [he] at hc
    by_cases hi : i < 0 ∨ (l.length : Int) ≤ i
    · have e1 : passE l i = 3 := by unfold passE; rw [if_neg (by omega), if_pos hi]
      have e2 : passR l i = 0 := by unfold passR; rw [if_pos (by rw [e1]; omega)]
      rw [e1, e2]
      rcases hi with hi | hi
      · have d1 : decide (i < 0) = true := decide_eq_true hi
        go_enter Try.func23, Try.ntmps23
        go_wp2_with fail
        refine (hc _ hr).mono ?_
        rintro e w1 ⟨rfl, hb1⟩
        go_wp2_with fail
        go_ret2
        exact ⟨rfl, hb1⟩
      · have d1 : decide (i < 0) = false := decide_eq_false (by omega)
        have d2 : decide ((l.length : Int) ≤ i) = true := decide_eq_true hi
        go_enter Try.func23, Try.ntmps23
        go_wp2_with fail
        refine (hc _ hr).mono ?_
        rintro e w1 ⟨rfl, hb1⟩
        go_wp2_with fail
        go_ret2
        exact ⟨rfl, hb1⟩
    · obtain ⟨k, rfl⟩ : ∃ k : Nat, i = k := ⟨i.toNat, by omega⟩
      have hk : k < l.length := by omega
      obtain ⟨x, hx⟩ : ∃ x, l[k]? = some x := ⟨_, List.getElem?_eq_getElem hk⟩
      have e1 : passE l k = 0 := by unfold passE; rw [if_neg (by omega), if_neg hi]
      have e2 : passR l k = pas l x := by unfold passR passN; rw [if_neg (by rw [e1]; omega), Int.toNat_natCast, hx]
      rw [e1, e2]
      obtain ⟨b, o, rfl, _, hbl, hcell⟩ := rd_ev hr hx
      have hp := fun W hR => passed_ok (some ⟨b, o, none⟩) l l.length c x W (G := G) hR rfl (by omega) ho
      have hpl := pas_le l x
      generalize pas l x = q at *
      obtain ⟨xt, ya, yw, n1, n2, n3, n4, n5, n6, n7, n8, n9, n10⟩ := x
      simp only [Ev.cells] at hcell
      simp only [Ev.val, Ev.cells] at hp
      have HX := Lib.hid hx
      have i1 : (0 : Int) ≤ k := Int.natCast_nonneg _
      have i2 : (k : Int) < l.length := by omega
      clear hx e1 e2 he hi
      go_enter Try.func23, Try.ntmps23
      go_wp2_with fail
      refine (hc _ hr).mono ?_
      rintro e w1 ⟨rfl, hb1⟩
      have hcell1 : w1.rangeAt b (o + k * 13) [.int .i64 xt, n1, n2, n3, n4, n5, n6, n7, n8, n9, n10, .int .i64 ya, .int .i64 yw] := fun j v hj => (Ch.of_below hb1 (fun _ => False)).keeps (hcell j v hj) (fun e => e)
      have hr1 := hr.keep (Ch.of_below hb1 (fun _ => False)) (fun _ _ _ e => e)
      clear hc hcell
      go_wp2_with (first | (refine wl_load 33 _ (b) (o + k * 13) ([.int .i64 xt, n1, n2, n3, n4, n5, n6, n7, n8, n9, n10, .int .i64 ya, .int .i64 yw]) _ ?_ ?_ Try.underlying33 ?_ ?_ ?_; (focus rfl); (focus (exact hcell1)); (focus rfl); (focus kernel_rfl)) | (go_at_call 28; refine (hp _ hr1).mono ?_; rintro e w2 ⟨rfl, hb2⟩))
      go_ret2
      exact ⟨rfl, by (repeat' (first | (with_reducible exact Below.refl _ _) | (with_reducible assumption) | (with_reducible refine Below.alloc ?_ ?_ _) | (with_reducible refine Below.drew ?_) | (with_reducible refine below_drewN ?_ _) | (with_reducible refine Below.setCell ?_ ?_ _) | (with_reducible refine Below.trans ?_ (Below.mono (by assumption) ?_)) | (first | go_size | (with_reducible exact Below.size (by assumption)) | (with_reducible exact Nat.le_trans (Below.size (by assumption)) (Below.size (by assumption))) | (refine Nat.le_trans (Below.size (by assumption)) ?_; go_size))))⟩
  · have e1 : passE l i = errF l := by unfold passE; rw [if_pos he]
    have e2 : passR l i = 0 := by unfold passR; rw [if_pos (by rw [e1]; exact he)]
    rw [e1, e2]
    generalize errF l = E at *
    have d1 : (E == 0) = false := by rw [beq_eq_false_iff_ne]; exact he
    have d2 : (E != 0) = true := by rw [bne_iff_ne]; exact he
    clear he e1 e2
    go_enter Try.func23, Try.ntmps23
    go_wp2_with fail
    refine (hc _ hr).mono ?_
    rintro e w1 ⟨rfl, hb1⟩
    go_wp2_with fail
    go_ret2
    exact ⟨rfl, hb1⟩
/-! ### Worst -/
theorem wst_bd : ∀ (k : Nat) (l : List Ev), (∀ e ∈ l, okEv e = true) → l.length = k → (-1 ≤ (wst l).1 ∧ (wst l).1 < k) ∧ (-1 ≤ (wst l).2 ∧ (wst l).2 ≤ 1099511627776)
  | 0, l, _, h => by
    obtain rfl : l = [] := List.eq_nil_of_length_eq_zero h
    simp [wst_nil]
  | k + 1, l, hk, h => by
    have hne : l ≠ [] := by rintro rfl; simp at h
    obtain ⟨p, x, rfl⟩ : ∃ p x, l = p ++ [x] := ⟨l.dropLast, l.getLast hne, (List.dropLast_concat_getLast hne).symm⟩
    have hl : p.length = k := by simp at h; exact h
    have ih := wst_bd k p (fun e he => hk e (by simp [he])) hl
    have hx := okEv_iff.1 (hk x (by simp))
    rw [wst_snoc]
    split
    · simp only; omega
    · omega
def wstR (l : List Ev) : Int := if errF l ≠ 0 then 0 else (wst l).1
set_option maxHeartbeats 1000000 in
theorem Worst_ok (A : Option Addr) (l : List Ev) (m c : Nat) (w : World) {G : Nat → Prop} (hr : Rd G w A (evs l)) (hl : l.length = m) (hm : m ≤ 9223372036854775806) (ho : ∀ e ∈ l, e.one) :
    Calls Try.prog 24 #[.slice A m c] w fun e w' => e = .returned (.tuple #[.int .i64 (wstR l), .int .i64 (errF l)]) ∧ Below w.heap.size w w' := by
  have hc := fun W hR => check_ok A l m c W (G := G) hR hl hm ho
  subst hl
  by_cases he : errF l = 0
  · obtain ⟨h1, h2⟩ := errF_zero he
    have e2 : wstR l = (wst l).1 := by unfold wstR; rw [if_neg (by omega)]
    rw [e2, he]
    rw [he] at hc
    have H2 := Lib.hid h2
    clear he e2 h2
    go_enter Try.func24, Try.ntmps24
    go_wp2_with fail
    refine (hc _ hr).mono ?_
    rintro e w1 ⟨rfl, hb1⟩
    clear hc
    go_wp2_with fail
    go_loopw [5, 6, 18] (fun v5 v6 v18 wr => ∃ k : Nat, k ≤ l.length ∧ v18 = .int .i64 k ∧ v5 = .int .i64 (wst (l.take k)).1 ∧ v6 = .int .i64 (wst (l.take k)).2 ∧ Below w.heap.size w wr) (fun _ _ v _ => l.length - (intOf v).toNat)
    case atStart => exact ⟨0, Nat.zero_le _, rfl, rfl, rfl, hb1⟩
    case round =>
      obtain ⟨k, hk, rfl, rfl, rfl, hb⟩ := hrel
      by_cases hlt : k < l.length
      · obtain ⟨y, hy⟩ : ∃ y, l[k]? = some y := ⟨_, List.getElem?_eq_getElem hlt⟩
        have hym := List.mem_of_getElem? hy
        obtain ⟨b, o, rfl, _, hbl, hcell⟩ := rd_ev (hr.keep (Ch.of_below hb (fun _ => False)) (fun _ _ _ e => e)) hy
        have hok := List.all_eq_true.1 H2.out y hym
        have htook := fun W => took_ok y W hok
        have HO := Lib.hid (all_oneCell_toArray (Ev.all_one (ho y hym)))
        have hsn := wst_snoc (l.take k) y
        rw [← take_snoc l k y hy] at hsn
        have hbd := wst_bd (l.take k).length (l.take k) (fun e he => List.all_eq_true.1 H2.out e (List.mem_of_mem_take he)) rfl
        rw [List.length_take, Nat.min_eq_left (by omega)] at hsn hbd
        obtain ⟨q1, q2, q3, q4, q5⟩ := okEv_iff.1 hok
        generalize wst (l.take k) = s at *
        obtain ⟨s1, s2⟩ := s
        obtain ⟨yt, ya, yw, n1, n2, n3, n4, n5, n6, n7, n8, n9, n10⟩ := y
        simp only [Ev.cells] at hcell HO
        simp only [Ev.val, Ev.cells] at htook
        simp only at hbd hsn q1 q2 q3 q4 q5 ⊢
        have HS := Lib.hid hsn
        have HY := Lib.hid hy
        obtain ⟨⟨b1, b2⟩, b3, b4⟩ := hbd
        have i1 : (0 : Int) ≤ k := Int.natCast_nonneg _
        have i2 : (k : Int) < l.length := by omega
        have hyw : yw - ya ≤ 1099511627776 := by omega
        have hyw2 : -1099511627777 ≤ yw - ya := by omega
        clear hsn hy hok q5
        have hzr := hb.size
        go_upto_region 9 with (first | (refine wl_load 33 _ (b) (o + k * 13) ([.int .i64 yt, n1, n2, n3, n4, n5, n6, n7, n8, n9, n10, .int .i64 ya, .int .i64 yw]) _ ?_ ?_ Try.underlying33 ?_ ?_ ?_; (focus rfl); (focus (exact hcell)); (focus rfl); (focus kernel_rfl)) | (refine wl_fresh 33 _ _ _ ([.int .i64 yt, n1, n2, n3, n4, n5, n6, n7, n8, n9, n10, .int .i64 ya, .int .i64 yw].toArray) ?_ ?_ ?_ ?_ ?_ ?_; (focus rfl); (focus rfl); (focus kernel_rfl); (focus rfl); (focus (exact HO.out))) | (refine wl_load 33 _ (wr.heap.size) (0) ([.int .i64 yt, n1, n2, n3, n4, n5, n6, n7, n8, n9, n10, .int .i64 ya, .int .i64 yw]) _ ?_ ?_ Try.underlying33 ?_ ?_ ?_; (focus rfl); (focus (exact range_blk (Blk.new _ _ _))); (focus rfl); (focus kernel_rfl)) | (go_at_call 22; refine (htook _).mono ?_; rintro e w5 ⟨rfl, hB5⟩))
        clear hcell HO htook
        by_cases hw : 0 ≤ yw
        · have dw : decide (0 ≤ yw) = true := decide_eq_true hw
          by_cases hs : s2 < yw - ya
          · have h3 := HS.out
            rw [if_pos ⟨hw, hs⟩] at h3
            have H3 := Lib.hid h3
            clear h3 HS
            go_wp2_with fail
            go_roundw
            case rel => exact ⟨k + 1, by omega, by go_num, by rw [H3.out], by rw [H3.out], by (repeat' (first | (with_reducible exact Below.refl _ _) | (with_reducible assumption) | (with_reducible refine Below.alloc ?_ ?_ _) | (with_reducible refine Below.drew ?_) | (with_reducible refine below_drewN ?_ _) | (with_reducible refine Below.setCell ?_ ?_ _) | (with_reducible refine Below.trans ?_ (Below.mono (by assumption) ?_)) | (first | go_size | (with_reducible exact Below.size (by assumption)) | (with_reducible exact Nat.le_trans (Below.size (by assumption)) (Below.size (by assumption))) | (refine Nat.le_trans (Below.size (by assumption)) ?_; go_size))))⟩
            case measure => simp [intOf]; omega
          · have h3 := HS.out
            rw [if_neg (fun h => hs h.2)] at h3
            have H3 := Lib.hid h3
            clear h3 HS
            go_wp2_with fail
            go_roundw
            case rel => exact ⟨k + 1, by omega, by go_num, by rw [H3.out], by rw [H3.out], by (repeat' (first | (with_reducible exact Below.refl _ _) | (with_reducible assumption) | (with_reducible refine Below.alloc ?_ ?_ _) | (with_reducible refine Below.drew ?_) | (with_reducible refine below_drewN ?_ _) | (with_reducible refine Below.setCell ?_ ?_ _) | (with_reducible refine Below.trans ?_ (Below.mono (by assumption) ?_)) | (first | go_size | (with_reducible exact Below.size (by assumption)) | (with_reducible exact Nat.le_trans (Below.size (by assumption)) (Below.size (by assumption))) | (refine Nat.le_trans (Below.size (by assumption)) ?_; go_size))))⟩
            case measure => simp [intOf]; omega
        · have dw : decide (0 ≤ yw) = false := decide_eq_false hw
          have h3 := HS.out
          rw [if_neg (fun h => hw h.1)] at h3
          have H3 := Lib.hid h3
          clear h3 HS
          go_wp2_with fail
          go_roundw
          case rel => exact ⟨k + 1, by omega, by go_num, by rw [H3.out], by rw [H3.out], by (repeat' (first | (with_reducible exact Below.refl _ _) | (with_reducible assumption) | (with_reducible refine Below.alloc ?_ ?_ _) | (with_reducible refine Below.drew ?_) | (with_reducible refine below_drewN ?_ _) | (with_reducible refine Below.setCell ?_ ?_ _) | (with_reducible refine Below.trans ?_ (Below.mono (by assumption) ?_)) | (first | go_size | (with_reducible exact Below.size (by assumption)) | (with_reducible exact Nat.le_trans (Below.size (by assumption)) (Below.size (by assumption))) | (refine Nat.le_trans (Below.size (by assumption)) ?_; go_size))))⟩
          case measure => simp [intOf]; omega
      · obtain rfl : k = l.length := by omega
        rw [List.take_length]
        go_wp2_with fail
        go_ret2
        exact ⟨rfl, hb⟩
  · have e2 : wstR l = 0 := by unfold wstR; rw [if_pos he]
    rw [e2]
    generalize errF l = E at *
    have d1 : (E == 0) = false := by rw [beq_eq_false_iff_ne]; exact he
    have d2 : (E != 0) = true := by rw [bne_iff_ne]; exact he
    clear he e2
    go_enter Try.func24, Try.ntmps24
    go_wp2_with fail
    refine (hc _ hr).mono ?_
    rintro e w1 ⟨rfl, hb1⟩
    go_wp2_with fail
    go_ret2
    exact ⟨rfl, hb1⟩
/-! ### Even -/
def rowOk (r : List Int) : Prop := ∃ a0 a1 a2 a3 a4 a5 : Int, r = [a0, a1, a2, a3, a4, a5] ∧ 0 ≤ a1 ∧ a1 ≤ 1000
theorem rowsT_ok (l : List Ev) (n : Nat) (hl : l.length ≤ 1000) : ∀ r ∈ rowsT l n, rowOk r := by
  intro r hr
  obtain ⟨t, _, rfl⟩ := List.mem_map.1 hr
  have := ans_le (l := l) (t := t)
  exact ⟨_, _, _, _, _, _, rfl, by omega, by omega⟩
theorem turnV_at {rows : List (List Int)} (h : ∀ r ∈ rows, rowOk r) {i j : Nat} {r : List Int} (hi : rows[i]? = some r) (hj : j < 6) : (turnV rows)[i * 6 + j]? = (r.map (Value.int .i64))[j]? := by
  unfold turnV
  refine flatten_at (n := 6) (r := r.map (Value.int .i64)) (xs := rows.map fun r => r.map (Value.int .i64)) (fun r' hr' => ?_) (by rw [List.getElem?_map, hi]; rfl) hj
  obtain ⟨q, hq, rfl⟩ := List.mem_map.1 hr'
  obtain ⟨a0, a1, a2, a3, a4, a5, rfl, _⟩ := h q hq
  rfl
theorem turnV_len {rows : List (List Int)} (h : ∀ r ∈ rows, rowOk r) : (turnV rows).length = rows.length * 6 := by
  unfold turnV
  rw [flatten_len (n := 6) (fun r' hr' => by
    obtain ⟨q, hq, rfl⟩ := List.mem_map.1 hr'
    obtain ⟨a0, a1, a2, a3, a4, a5, rfl, _⟩ := h q hq
    rfl), List.length_map]
theorem rd_turn {G : Nat → Prop} {w : World} {A : Option Addr} {rows : List (List Int)} (h : Rd G w A (turnV rows)) (ho : ∀ r ∈ rows, rowOk r) {i : Nat} {a0 a1 a2 a3 a4 a5 : Int} (hi : rows[i]? = some [a0, a1, a2, a3, a4, a5]) :
    ∃ b o, A = some ⟨b, o, none⟩ ∧ G b ∧ b < w.heap.size ∧ w.cell? ⟨b, o + i * 6, none⟩ = some (.int .i64 a0) ∧ w.cell? ⟨b, o + i * 6 + 1, none⟩ = some (.int .i64 a1) ∧ w.cell? ⟨b, o + i * 6 + 2, none⟩ = some (.int .i64 a2) ∧
      w.cell? ⟨b, o + i * 6 + 3, none⟩ = some (.int .i64 a3) ∧ w.cell? ⟨b, o + i * 6 + 4, none⟩ = some (.int .i64 a4) ∧ w.cell? ⟨b, o + i * 6 + 5, none⟩ = some (.int .i64 a5) := by
  have hl : i < rows.length := (List.getElem?_eq_some_iff.1 hi).1
  obtain ⟨b, o, hA, hG, hb, hc⟩ := h (by intro e0; have := turnV_len ho; rw [e0] at this; simp only [List.length_nil] at this; omega)
  have key : ∀ j v, j < 6 → ([a0, a1, a2, a3, a4, a5].map (Value.int .i64))[j]? = some v → w.cell? ⟨b, o + i * 6 + j, none⟩ = some v := fun j v hj hv => by
    rw [Nat.add_assoc]
    exact hc _ v ((turnV_at ho hi hj).trans hv)
  exact ⟨b, o, hA, hG, hb, key 0 _ (by omega) rfl, key 1 _ (by omega) rfl, key 2 _ (by omega) rfl, key 3 _ (by omega) rfl, key 4 _ (by omega) rfl, key 5 _ (by omega) rfl⟩
theorem sumA_snoc (rows : List (List Int)) (r : List Int) : sumA (rows ++ [r]) = sumA rows + r.getD 1 0 := by simp [sumA]
theorem sumQ_snoc (rows : List (List Int)) (r : List Int) : sumQ (rows ++ [r]) = sumQ rows + r.getD 1 0 * r.getD 1 0 := by simp [sumQ]
theorem mul_bd {a b : Int} (a0 : 0 ≤ a) (ha : a ≤ 1000) (b0 : 0 ≤ b) (hb : b ≤ 1000) : 0 ≤ a * b ∧ a * b ≤ 1000000 := by
  have h1 := Int.mul_nonneg a0 b0
  have h2 := Int.mul_le_mul ha hb b0 (by omega)
  omega
theorem sum_bd : ∀ (rows : List (List Int)), (∀ r ∈ rows, rowOk r) → (0 ≤ sumA rows ∧ sumA rows ≤ 1000 * rows.length) ∧ (0 ≤ sumQ rows ∧ sumQ rows ≤ 1000000 * rows.length) ∧ (sumA rows ≠ 0 → 0 < sumQ rows)
  | [], _ => by simp [sumA, sumQ]
  | r :: rows, h => by
    obtain ⟨⟨h1, h2⟩, ⟨h3, h4⟩, h5⟩ := sum_bd rows (fun r hr => h r (by simp [hr]))
    obtain ⟨a0, a1, a2, a3, a4, a5, rfl, h6, h7⟩ := h r (by simp)
    have e1 : sumA ([a0, a1, a2, a3, a4, a5] :: rows) = a1 + sumA rows := by simp [sumA]
    have e2 : sumQ ([a0, a1, a2, a3, a4, a5] :: rows) = a1 * a1 + sumQ rows := by simp [sumQ]
    obtain ⟨m1, m2⟩ := mul_bd h6 h7 h6 h7
    rw [e1, e2, List.length_cons]
    refine ⟨⟨by omega, by omega⟩, ⟨by omega, by omega⟩, fun hn => ?_⟩
    by_cases ha : a1 = 0
    · have := h5 (by omega); omega
    · have : 0 < a1 * a1 := Int.mul_pos (by omega) (by omega)
      omega
def evenR (l : List Ev) : Int := if errF l ≠ 0 then 0 else evenN (rowsT l 64)
set_option maxHeartbeats 1000000 in
theorem Even_ok (A : Option Addr) (l : List Ev) (m c : Nat) (w : World) {G : Nat → Prop} (hr : Rd G w A (evs l)) (hl : l.length = m) (hm : m ≤ 9223372036854775806) (ho : ∀ e ∈ l, e.one) :
    Calls Try.prog 15 #[.slice A m c] w fun e w' => e = .returned (.tuple #[.int .i64 (evenR l), .int .i64 (errF l)]) ∧ Below w.heap.size w w' := by
  by_cases he : errF l = 0
  · obtain ⟨h1, h2⟩ := errF_zero he
    have hc := turns_yes A l m c w hr hl ho he
    have e2 : evenR l = evenN (rowsT l 64) := by unfold evenR; rw [if_neg (by omega)]
    have hrow := rowsT_ok l 64 h1
    have hrl := rowsT_len l 64
    rw [e2, he]
    generalize rowsT l 64 = rows at *
    clear e2 he h2
    have hsb := sum_bd rows hrow
    have HEV := Lib.hid (show evenN rows = if sumA rows = 0 then 1000 else 1000 * sumA rows * sumA rows / (rows.length * sumQ rows) from rfl)
    generalize evenN rows = EV at *
    go_enter Try.func15, Try.ntmps15
    go_wp2_with fail
    refine hc.mono ?_
    rintro e w1 ⟨A2, c2, rfl, hr2, hc2, hc3, hA2, hb1⟩
    clear hc
    go_wp2_with fail
    go_loopw [6, 7, 20] (fun v6 v7 v20 wr => ∃ k : Nat, k ≤ rows.length ∧ v20 = .int .i64 k ∧ v6 = .int .i64 (sumA (rows.take k)) ∧ v7 = .int .i64 (sumQ (rows.take k)) ∧ Below w1.heap.size w1 wr) (fun _ _ v _ => rows.length - (intOf v).toNat)
    case atStart => exact ⟨0, Nat.zero_le _, rfl, rfl, rfl, Below.refl _ _⟩
    case round =>
      obtain ⟨k, hk, rfl, rfl, rfl, hb⟩ := hrel
      by_cases hlt : k < rows.length
      · obtain ⟨r, hrk⟩ : ∃ r, rows[k]? = some r := ⟨_, List.getElem?_eq_getElem hlt⟩
        obtain ⟨a0, a1, a2, a3, a4, a5, rfl, q1, q2⟩ := hrow r (List.mem_of_getElem? hrk)
        obtain ⟨b, o, rfl, _, hbl, f0, f1, f2, f3, f4, f5⟩ := rd_turn (hr2.keep (Ch.of_below hb (fun _ => False)) (fun _ _ _ e => e)) hrow hrk
        have hs1 := sumA_snoc (rows.take k) [a0, a1, a2, a3, a4, a5]
        have hs2 := sumQ_snoc (rows.take k) [a0, a1, a2, a3, a4, a5]
        rw [← take_snoc rows k _ hrk] at hs1 hs2
        have hbd := sum_bd (rows.take k) (fun r hr => hrow r (List.mem_of_mem_take hr))
        have hm := mul_bd q1 q2 q1 q2
        rw [List.length_take, Nat.min_eq_left (by omega)] at hbd
        obtain ⟨⟨b1, b2⟩, ⟨b3, b4⟩, _⟩ := hbd
        generalize sumA (rows.take k) = s1 at *
        generalize sumQ (rows.take k) = s2 at *
        have HS1 := Lib.hid hs1
        have HS2 := Lib.hid hs2
        obtain ⟨m1, m2⟩ := hm
        have i1 : (0 : Int) ≤ k := Int.natCast_nonneg _
        have i2 : (k : Int) < rows.length := by omega
        have hzb := hsb.1.1
        clear hs1 hs2 hrk hsb
        go_wp2_with fail
        go_roundw
        case rel => exact ⟨k + 1, by omega, by go_num, by rw [HS1.out]; rfl, by rw [HS2.out]; rfl, by (repeat' (first | (with_reducible exact Below.refl _ _) | (with_reducible assumption) | (with_reducible refine Below.alloc ?_ ?_ _) | (with_reducible refine Below.drew ?_) | (with_reducible refine below_drewN ?_ _) | (with_reducible refine Below.setCell ?_ ?_ _) | (with_reducible refine Below.trans ?_ (Below.mono (by assumption) ?_)) | (first | go_size | (with_reducible exact Below.size (by assumption)) | (with_reducible exact Nat.le_trans (Below.size (by assumption)) (Below.size (by assumption))) | (refine Nat.le_trans (Below.size (by assumption)) ?_; go_size))))⟩
        case measure => simp [intOf]; omega
      · obtain rfl : k = rows.length := by omega
        rw [List.take_length]
        obtain ⟨⟨b1, b2⟩, ⟨b3, b4⟩, b5⟩ := hsb
        generalize sumA rows = s1 at *
        generalize sumQ rows = s2 at *
        by_cases hz : s1 = 0
        · have hE : EV = 1000 := by rw [HEV.out, if_pos hz]
          subst hE hz
          go_wp2_with fail
          go_ret2
          exact ⟨rfl, hb1.trans (hb.mono hb1.size)⟩
        · have dz : (s1 == 0) = false := by rw [beq_eq_false_iff_ne]; exact hz
          have hq := b5 hz
          have hq2 : (0 : Int) < (rows.length : Int) * s2 := Int.mul_pos (by omega) hq
          have hq3 : (rows.length : Int) * s2 ≤ 64 * 64000000 := Int.mul_le_mul (by omega) (by omega) (by omega) (by omega)
          have hq4 : 0 ≤ 1000 * s1 * s1 := Int.mul_nonneg (by omega) b1
          have hq5 : 1000 * s1 * s1 ≤ (1000 * 64000) * 64000 := Int.mul_le_mul (by omega) (by omega) b1 (by omega)
          have hq6 : ((rows.length : Int) * s2 == 0) = false := by rw [beq_eq_false_iff_ne]; omega
          have hE := HEV.out
          rw [if_neg hz] at hE
          subst hE
          clear b5 hz HEV
          go_wp2_with fail
          go_ret2
          exact ⟨rfl, hb1.trans (hb.mono hb1.size)⟩
  · have e2 : evenR l = 0 := by unfold evenR; rw [if_pos he]
    have hc := turns_no A l m c w hr hl hm ho he
    rw [e2]
    generalize errF l = E at *
    have d1 : (E == 0) = false := by rw [beq_eq_false_iff_ne]; exact he
    have d2 : (E != 0) = true := by rw [bne_iff_ne]; exact he
    clear he e2
    go_enter Try.func15, Try.ntmps15
    go_wp2_with fail
    refine hc.mono ?_
    rintro e w1 ⟨A2, c2, rfl, hr2, hc2, hc3, hA2, hb1⟩
    go_wp2_with fail
    go_ret2
    exact ⟨rfl, hb1⟩
end Go.Proofs.Ythikpceckiapjaa
