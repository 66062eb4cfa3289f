/-
  The helpers of the laws of layer 51.
-/
import Derived.Test.YthikpceckiapjaaFair5
namespace Go.Proofs.Ythikpceckiapjaa
open Go.RowKit

def six (r : List Int) : Prop := ∃ a0 a1 a2 a3 a4 a5 : Int, r = [a0, a1, a2, a3, a4, a5]
theorem six_at {rows : List (List Int)} (h : ∀ r ∈ rows, six r) {i j : Nat} {r : List Int} (hi : rows[i]? = some r) (hj : j < 6) : (turnV rows)[i * 6 + j]? = (r.map (Value.int .i64))[j]? := by
  unfold turnV
  refine flatten_at (n := 6) (r := r.map (Value.int .i64)) (xs := rows.map fun r => r.map (Value.int .i64)) (fun r' hr' => ?_) (by rw [List.getElem?_map, hi]; rfl) hj
  obtain ⟨q, hq, rfl⟩ := List.mem_map.1 hr'
  obtain ⟨a0, a1, a2, a3, a4, a5, rfl⟩ := h q hq
  rfl
theorem six_len {rows : List (List Int)} (h : ∀ r ∈ rows, six r) : (turnV rows).length = rows.length * 6 := by
  unfold turnV
  rw [flatten_len (n := 6) (fun r' hr' => by
    obtain ⟨q, hq, rfl⟩ := List.mem_map.1 hr'
    obtain ⟨a0, a1, a2, a3, a4, a5, rfl⟩ := h q hq
    rfl), List.length_map]
theorem rd_six {G : Nat → Prop} {w : World} {A : Option Addr} {rows : List (List Int)} (h : Rd G w A (turnV rows)) (ho : ∀ r ∈ rows, six r) {i : Nat} {a0 a1 a2 a3 a4 a5 : Int} (hi : rows[i]? = some [a0, a1, a2, a3, a4, a5]) :
    ∃ b o, A = some ⟨b, o, none⟩ ∧ G b ∧ b < w.heap.size ∧ w.cell? ⟨b, o + i * 6, none⟩ = some (.int .i64 a0) ∧ w.cell? ⟨b, o + i * 6 + 1, none⟩ = some (.int .i64 a1) ∧ w.cell? ⟨b, o + i * 6 + 2, none⟩ = some (.int .i64 a2) ∧
      w.cell? ⟨b, o + i * 6 + 3, none⟩ = some (.int .i64 a3) ∧ w.cell? ⟨b, o + i * 6 + 4, none⟩ = some (.int .i64 a4) ∧ w.cell? ⟨b, o + i * 6 + 5, none⟩ = some (.int .i64 a5) := by
  have hl : i < rows.length := (List.getElem?_eq_some_iff.1 hi).1
  obtain ⟨b, o, hA, hG, hb, hc⟩ := h (by intro e0; have := six_len ho; rw [e0] at this; simp only [List.length_nil] at this; omega)
  have key : ∀ j v, j < 6 → ([a0, a1, a2, a3, a4, a5].map (Value.int .i64))[j]? = some v → w.cell? ⟨b, o + i * 6 + j, none⟩ = some v := fun j v hj hv => by
    rw [Nat.add_assoc]
    exact hc _ v ((six_at ho hi hj).trans hv)
  exact ⟨b, o, hA, hG, hb, key 0 _ (by omega) rfl, key 1 _ (by omega) rfl, key 2 _ (by omega) rfl, key 3 _ (by omega) rfl, key 4 _ (by omega) rfl, key 5 _ (by omega) rfl⟩
theorem rowsT_six (l : List Ev) (n : Nat) : ∀ r ∈ rowsT l n, six r := by
  intro r hr
  obtain ⟨t, _, rfl⟩ := List.mem_map.1 hr
  exact ⟨_, _, _, _, _, _, rfl⟩
def sixV (r : List Int) : Value := .agg (r.map (Value.int .i64)).toArray
set_option maxHeartbeats 1000000 in
theorem six_neq (a0 a1 a2 a3 a4 a5 b0 b1 b2 b3 b4 b5 : Int) (w : World) :
    (binOp .neq 45 (.agg #[.int .i64 a0, .int .i64 a1, .int .i64 a2, .int .i64 a3, .int .i64 a4, .int .i64 a5]) (.agg #[.int .i64 b0, .int .i64 b1, .int .i64 b2, .int .i64 b3, .int .i64 b4, .int .i64 b5])).run Try.prog w = .ok (.bool (!decide ([a0, a1, a2, a3, a4, a5] = [b0, b1, b2, b3, b4, b5]))) w := by
  by_cases h0 : a0 = b0
  · by_cases h1 : a1 = b1
    · by_cases h2 : a2 = b2
      · by_cases h3 : a3 = b3
        · by_cases h4 : a4 = b4
          · by_cases h5 : a5 = b5
            · (go_simp; try simp [*])
            · (go_simp; try simp [*])
          · (go_simp; try simp [*])
        · (go_simp; try simp [*])
      · (go_simp; try simp [*])
    · (go_simp; try simp [*])
  · (go_simp; try simp [*])
/-- what Turns returns -/
def turnsR (l : List Ev) : List (List Int) := if errF l ≠ 0 then [] else rowsT l 64
theorem Turns_ok (A : Option Addr) (l : List Ev) (m c : Nat) (w : World) {G : Nat → Prop} (hr : Rd G w A (evs l)) (hl : l.length = m) (hm : m ≤ 9223372036854775806) (ho : ∀ e ∈ l, e.one) :
    Calls Try.prog 13 #[.slice A m c] w (TurnsP w (turnsR l) (errF l)) := by
  by_cases he : errF l = 0
  · unfold turnsR
    rw [if_neg (by omega), he]
    exact turns_yes A l m c w hr hl ho he
  · unfold turnsR
    rw [if_pos he]
    exact turns_no A l m c w hr hl hm ho he
theorem turnsR_six (l : List Ev) : ∀ r ∈ turnsR l, six r := by
  unfold turnsR
  split
  · intro r hr; cases hr
  · exact rowsT_six l 64
theorem turnsR_len (l : List Ev) : (turnsR l).length ≤ 64 := by
  unfold turnsR
  split
  · simp
  · exact rowsT_len l 64
def turnsB (l : List Ev) (want : List (List Int)) (no : Int) : Bool := decide (turnsR l = want) && decide (errF l = no)
set_option maxHeartbeats 1000000 in
theorem lturns_ok (A : Option Addr) (l : List Ev) (m c : Nat) (A2 : Option Addr) (want : List (List Int)) (n2 c2 : Nat) (no : Int) (w : World) {G G2 : Nat → Prop} (hr : Rd G w A (evs l)) (hl : l.length = m) (hm : m ≤ 9223372036854775806) (ho : ∀ e ∈ l, e.one)
    (hr2 : Rd G2 w A2 (turnV want)) (hl2 : want.length = n2) (hn2 : n2 ≤ c2) (_hc2 : c2 ≤ 9223372036854775807) (hs : ∀ r ∈ want, six r) :
    Calls Try.prog 9 #[.slice A m c, .slice A2 n2 c2, .int .i64 no] w fun e w' => e = .returned (.bool (turnsB l want no)) ∧ Below w.heap.size w w' := by
  have hc := Turns_ok A l m c w hr hl hm ho
  have hsix := turnsR_six l
  have hlen := turnsR_len l
  have HB := Lib.hid (show turnsB l want no = (decide (turnsR l = want) && decide (errF l = no)) from rfl)
  generalize turnsB l want no = B at *
  generalize turnsR l = rows at *
  generalize errF l = E at *
  subst hl2
  by_cases h1 : rows.length = want.length ∧ E = no
  · obtain ⟨h1, rfl⟩ := h1
    have d1 : ((rows.length : Int) == (want.length : Int)) = true := by rw [beq_iff_eq]; omega
    have H1 := Lib.hid h1
    have i3 : (want.length : Int) ≤ rows.length := by omega
    have i4 : (rows.length : Int) ≤ want.length := by omega
    clear h1
    go_enter Try.func9, Try.ntmps9
    go_wp2_with fail
    refine hc.mono ?_
    rintro e w1 ⟨A3, c3, rfl, hr3, hc3, hc4, hA3, hb1⟩
    have hr2 := hr2.keep (Ch.of_below hb1 (fun _ => False)) (fun _ _ _ e => e)
    clear hc
    go_wp2_with fail
    all_goals (try (exfalso; omega))
    go_loopw [9] (fun v wr => ∃ k : Nat, k ≤ rows.length ∧ v = .int .i64 k ∧ (∀ j, j < k → rows[j]? = want[j]?) ∧ Below w1.heap.size w1 wr) (fun v _ => rows.length - (intOf v).toNat)
    case atStart => exact ⟨0, Nat.zero_le _, rfl, fun j hj => by omega, Below.refl _ _⟩
    case round =>
      obtain ⟨k, hk, rfl, hall, hb⟩ := hrel
      have HA := Lib.hid hall
      clear hall
      by_cases hlt : k < rows.length
      · obtain ⟨r, hrk⟩ : ∃ r, rows[k]? = some r := ⟨_, List.getElem?_eq_getElem hlt⟩
        obtain ⟨q, hqk⟩ : ∃ q, want[k]? = some q := ⟨_, List.getElem?_eq_getElem (by have := H1.out; omega)⟩
        obtain ⟨a0, a1, a2, a3, a4, a5, rfl⟩ := hsix r (List.mem_of_getElem? hrk)
        obtain ⟨b0, b1, b2, b3, b4, b5, rfl⟩ := hs q (List.mem_of_getElem? hqk)
        obtain ⟨bA, oA, rfl, _, _, f0, f1, f2, f3, f4, f5⟩ := rd_six (hr3.keep (Ch.of_below hb (fun _ => False)) (fun _ _ _ e => e)) hsix hrk
        obtain ⟨bB, oB, rfl, _, _, g0, g1, g2, g3, g4, g5⟩ := rd_six (hr2.keep (Ch.of_below hb (fun _ => False)) (fun _ _ _ e => e)) hs hqk
        have hne := six_neq a0 a1 a2 a3 a4 a5 b0 b1 b2 b3 b4 b5
        have i1 : (0 : Int) ≤ k := Int.natCast_nonneg _
        have i2 : (k : Int) < rows.length := by omega
        have HR := Lib.hid hrk
        have HQ := Lib.hid hqk
        clear hrk hqk
        by_cases hab : [a0, a1, a2, a3, a4, a5] = [b0, b1, b2, b3, b4, b5]
        · have HAB := Lib.hid hab
          have dab : decide ([a0, a1, a2, a3, a4, a5] = [b0, b1, b2, b3, b4, b5]) = true := decide_eq_true hab
          rw [dab] at hne
          clear hab dab
          go_upto_region 7 with fail
          go_quiet (fail)
          go_wp2_with fail
          go_roundw
          case rel => exact ⟨k + 1, by omega, by go_num, fun j hj => by
            by_cases e : j = k
            · subst e; rw [HR.out, HQ.out, HAB.out]
            · exact HA.out j (by omega), by (repeat' (first | (with_reducible exact Below.refl _ _) | (with_reducible assumption) | (with_reducible refine Below.alloc ?_ ?_ _) | (with_reducible refine Below.drew ?_) | (with_reducible refine below_drewN ?_ _) | (with_reducible refine Below.setCell ?_ ?_ _) | (with_reducible refine Below.trans ?_ (Below.mono (by assumption) ?_)) | (first | go_size | (with_reducible exact Below.size (by assumption)) | (with_reducible exact Nat.le_trans (Below.size (by assumption)) (Below.size (by assumption))) | (refine Nat.le_trans (Below.size (by assumption)) ?_; go_size))))⟩
          case measure => simp [intOf]; omega
        · have dab : decide ([a0, a1, a2, a3, a4, a5] = [b0, b1, b2, b3, b4, b5]) = false := decide_eq_false hab
          rw [dab] at hne
          have hB : B = false := by
            rw [HB.out, Bool.and_eq_false_iff]
            left
            rw [decide_eq_false_iff_not]
            rintro rfl
            have h7 := HR.out.symm.trans HQ.out
            injection h7 with h7
            exact hab h7
          subst hB
          clear hab dab
          go_upto_region 7 with fail
          go_quiet (fail)
          go_wp2_with fail
          go_ret
          exact ⟨rfl, by (repeat' (first | (with_reducible exact Below.refl _ _) | (with_reducible assumption) | (with_reducible refine Below.alloc ?_ ?_ _) | (with_reducible refine Below.drew ?_) | (with_reducible refine below_drewN ?_ _) | (with_reducible refine Below.setCell ?_ ?_ _) | (with_reducible refine Below.trans ?_ (Below.mono (by assumption) ?_)) | (first | go_size | (with_reducible exact Below.size (by assumption)) | (with_reducible exact Nat.le_trans (Below.size (by assumption)) (Below.size (by assumption))) | (refine Nat.le_trans (Below.size (by assumption)) ?_; go_size))))⟩
      · obtain rfl : k = rows.length := by omega
        have hB : B = true := by
          rw [HB.out]
          simp only [decide_true, Bool.and_true, decide_eq_true_eq]
          apply List.ext_getElem?
          intro j
          by_cases hj : j < rows.length
          · exact HA.out j hj
          · rw [List.getElem?_eq_none (by omega), List.getElem?_eq_none (by have := H1.out; omega)]
        subst hB
        go_wp2_with fail
        go_ret
        exact ⟨rfl, by (repeat' (first | (with_reducible exact Below.refl _ _) | (with_reducible assumption) | (with_reducible refine Below.alloc ?_ ?_ _) | (with_reducible refine Below.drew ?_) | (with_reducible refine below_drewN ?_ _) | (with_reducible refine Below.setCell ?_ ?_ _) | (with_reducible refine Below.trans ?_ (Below.mono (by assumption) ?_)) | (first | go_size | (with_reducible exact Below.size (by assumption)) | (with_reducible exact Nat.le_trans (Below.size (by assumption)) (Below.size (by assumption))) | (refine Nat.le_trans (Below.size (by assumption)) ?_; go_size))))⟩
  · have hB : B = false := by
      rw [HB.out, Bool.and_eq_false_iff]
      by_cases h2 : rows.length = want.length
      · right; rw [decide_eq_false_iff_not]; exact fun e => h1 ⟨h2, e⟩
      · left; rw [decide_eq_false_iff_not]; exact fun e => h2 (by rw [e])
    subst hB
    have hd : ¬ ((rows.length : Int) = (want.length : Int) ∧ E = no) := fun h => h1 ⟨by omega, h.2⟩
    clear h1
    go_enter Try.func9, Try.ntmps9
    go_wp2_with fail
    refine hc.mono ?_
    rintro e w1 ⟨A3, c3, rfl, hr3, hc3, hc4, hA3, hb1⟩
    clear hc
    by_cases e1 : (rows.length : Int) = (want.length : Int)
    · have d1 : ((rows.length : Int) == (want.length : Int)) = true := by rw [beq_iff_eq]; exact e1
      have d2 : (E == no) = false := by rw [beq_eq_false_iff_ne]; exact fun e => hd ⟨e1, e⟩
      have d3 : (E != no) = true := by rw [bne_iff_ne]; exact fun e => hd ⟨e1, e⟩
      clear hd
      go_upto_region 2 with fail
      clear e1
      go_wp2_with fail
      all_goals first
        | (go_ret; exact ⟨rfl, by (repeat' (first | (with_reducible exact Below.refl _ _) | (with_reducible assumption) | (with_reducible refine Below.alloc ?_ ?_ _) | (with_reducible refine Below.drew ?_) | (with_reducible refine below_drewN ?_ _) | (with_reducible refine Below.setCell ?_ ?_ _) | (with_reducible refine Below.trans ?_ (Below.mono (by assumption) ?_)) | (first | go_size | (with_reducible exact Below.size (by assumption)) | (with_reducible exact Nat.le_trans (Below.size (by assumption)) (Below.size (by assumption))) | (refine Nat.le_trans (Below.size (by assumption)) ?_; go_size))))⟩)
        | (exfalso; omega)
    · clear hd
      go_wp2_with fail
      all_goals first
        | (go_ret; exact ⟨rfl, by (repeat' (first | (with_reducible exact Below.refl _ _) | (with_reducible assumption) | (with_reducible refine Below.alloc ?_ ?_ _) | (with_reducible refine Below.drew ?_) | (with_reducible refine below_drewN ?_ _) | (with_reducible refine Below.setCell ?_ ?_ _) | (with_reducible refine Below.trans ?_ (Below.mono (by assumption) ?_)) | (first | go_size | (with_reducible exact Below.size (by assumption)) | (with_reducible exact Nat.le_trans (Below.size (by assumption)) (Below.size (by assumption))) | (refine Nat.le_trans (Below.size (by assumption)) ?_; go_size))))⟩)
        | (exfalso; omega)
end Go.Proofs.Ythikpceckiapjaa
