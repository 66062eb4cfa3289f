/-
  Contracts of package fair, third part: Turns, Passed, Even, Worst.
-/
import Derived.Test.YthikpceckiapjaaFair2
import Derived.OwnWalk
namespace Go.Proofs.Ythikpceckiapjaa
open Go.RowKit

def rowV (f : Nat → Nat → Int) (t : Nat) : List Value := [.int .i64 (f t 0), .int .i64 (f t 1), .int .i64 (f t 2), .int .i64 (f t 3), .int .i64 (f t 4), .int .i64 (f t 5)]
theorem flat_row (f : Nat → Nat → Int) {t : Nat} (ht : t < 64) : (flat f).toArray.extract (t * 6) (t * 6 + 6) = (rowV f t).toArray := by
  apply Array.ext_getElem?
  intro i
  rw [Array.getElem?_extract]
  by_cases hi : i < 6
  · rw [if_pos (by simp [flat_len]; omega), List.getElem?_toArray, flat_get _ ht hi, List.getElem?_toArray]
    match i, hi with
    | 0, _ => rfl
    | 1, _ => rfl
    | 2, _ => rfl
    | 3, _ => rfl
    | 4, _ => rfl
    | 5, _ => rfl
  · rw [if_neg (by omega), List.getElem?_toArray, List.getElem?_eq_none (by simp [rowV]; omega)]
theorem isAgg_run {P : Program} {t : TypeId} {fs : Array Field} (h : P.underlying t = some (.struct fs)) (w : World) : (isAgg t).run P w = .ok true w := by
  unfold isAgg
  rw [Sem.run_bind, run_underlying h w]
  rfl
theorem sizeOf_run {P : Program} {t : TypeId} {n : Nat} (h : (P.info? t).map (·.size) = some n) (w : World) : (sizeOf t).run P w = .ok n w := by
  cases hq : P.info? t with
  | none => simp [hq] at h
  | some i => simp [hq] at h; simp [sizeOf, typeInfo, hq, h]
theorem sizeT : (Try.prog.info? 45).map (·.size) = some 6 := by kernel_rfl
theorem run_index_flat (f : Nat → Nat → Int) {t : Nat} (ht : t < 64) (w : World) : (Instr.index 64 (.agg (flat f).toArray) (.int .i64 (t : Int))).run Try.prog w = .ok (.agg (rowV f t).toArray) w := by
  unfold Instr.index
  simp only [asIntOf, Sem.run_bind, Sem.run_pure, Result.andThen_ok, run_underlying Try.underlying64 w]
  rw [if_pos (by omega)]
  simp only [Sem.run_bind, sizeOf_run sizeT w, Result.andThen_ok, Int.toNat_natCast, part, isAgg_run Try.underlying45 w, if_true, Sem.run_pure, flat_row f ht]
def turnV (rows : List (List Int)) : List Value := (rows.map fun r => r.map (Value.int .i64)).flatten
theorem turnV_snoc (rows : List (List Int)) (r : List Int) : turnV (rows ++ [r]) = turnV rows ++ r.map (Value.int .i64) := by simp [turnV]
/-- a result that is a list of turns, and an error -/
def TurnsP (w : World) (rows : List (List Int)) (no : Int) (e : Ending) (w' : World) : Prop :=
  ∃ A c, e = .returned (.tuple #[.slice A rows.length c, .int .i64 no]) ∧ Rd (fun b => w.heap.size ≤ b) w' A (turnV rows) ∧ rows.length ≤ c ∧ c ≤ 9223372036854775807 ∧ (A = none → c = 0) ∧ Below w.heap.size w w'
theorem own_cap {w : World} {base n c : Nat} {e : TypeId} {size : Nat} {A : Option Addr} {xs : List Value} (h : w.ownsRow base e size (.slice A n c) n xs) : c ≤ 9223372036854775807 := by
  rcases h.2 with ⟨e, _⟩ | ⟨g, cap, cur, e, _, _, _, h2, _⟩
  · injection e with _ _ e; omega
  · injection e with _ _ e; unfold maxLen at h2; omega
theorem ownBlock_ge {v : Value} {base n j : Nat} {w : World} {e : TypeId} {size : Nat} {xs : List Value} (h : w.ownsRow base e size v n xs) (hj : v.ownBlock = some j) : base ≤ j := by
  rcases h.2 with ⟨rfl, _⟩ | ⟨g', cap, cur, rfl, hb, _⟩
  · simp [Value.ownBlock] at hj
  · simp [Value.ownBlock] at hj; omega
theorem info_parts {P : Program} {T : TypeId} {z : Option Value} {size bytes : Nat} (h : (P.info? T).map (fun i => (i.zero, i.size, i.bytes)) = some (z, size, bytes)) : ∃ i, P.info? T = some i ∧ i.zero = z ∧ i.size = size ∧ i.bytes = bytes := by
  cases hi : P.info? T with
  | none => rw [hi] at h; cases h
  | some i =>
    rw [hi] at h
    injection h with h
    injection h with h1 h
    injection h with h2 h3
    exact ⟨i, rfl, h1, h2, h3⟩
theorem turnInfo : (Try.prog.info? 45).map (fun i => (i.zero, i.size, i.bytes)) = some (some (.agg #[.int .i64 0, .int .i64 0, .int .i64 0, .int .i64 0, .int .i64 0, .int .i64 0]), 6, 48) := by kernel_rfl
theorem rowsT_len (l : List Ev) (n : Nat) : (rowsT l n).length ≤ n := by
  unfold rowsT
  rw [List.length_map]
  have := List.length_filter_le (fun t => decide (0 < ans l t + opn l t)) (List.range n)
  rw [List.length_range] at this
  exact this
set_option maxHeartbeats 1000000 in
theorem turns_no (A : Option Addr) (l : List Ev) (m c : Nat) (w : World) {G : Nat → Prop} (hr : Rd G w A (evs l)) (hl : l.length = m) (hm : m ≤ 9223372036854775806) (ho : ∀ e ∈ l, e.one) (he : errF l ≠ 0) :
    Calls Try.prog 13 #[.slice A m c] w (TurnsP w [] (errF l)) := by
  have hc := fun W hR => check_ok A l m c W (G := G) hR hl hm ho
  generalize errF l = E at *
  have d1 : (E == 0) = false := by rw [beq_eq_false_iff_ne]; exact he
  have d2 : (E != 0) = true := by rw [bne_iff_ne]; exact he
  clear he
  go_enter Try.func13, Try.ntmps13
  go_wp2_with fail
  refine (hc _ hr).mono ?_
  rintro e w1 ⟨rfl, hb1⟩
  clear hc
  go_wp2_with fail
  go_ret2
  exact ⟨none, 0, rfl, Rd.nil _ _ _, Nat.le_refl _, by omega, fun _ => rfl, hb1⟩
set_option maxRecDepth 100000 in
set_option maxHeartbeats 2000000 in
theorem turns_yes (A : Option Addr) (l : List Ev) (m c : Nat) (w : World) {G : Nat → Prop} (hr : Rd G w A (evs l)) (hl : l.length = m) (ho : ∀ e ∈ l, e.one) (he : errF l = 0) :
    Calls Try.prog 13 #[.slice A m c] w (TurnsP w (rowsT l 64) 0) := by
  obtain ⟨h1000, hall⟩ : l.length ≤ 1000 ∧ l.all okEv = true := by
    unfold errF at he
    split at he
    · cases he
    · split at he
      · exact ⟨by omega, by assumption⟩
      · cases he
  have hc := fun W hR => check_ok A l m c W (G := G) hR hl (by omega) ho
  have ht := fun W hR => turns_ok A l m c W (G := G) hR hl (by omega) ho hall
  rw [he] at hc
  obtain ⟨i0, hi0, hz0, hz1, hz2⟩ := info_parts turnInfo
  go_enter Try.func13, Try.ntmps13
  go_wp2_with fail
  refine (hc _ hr).mono ?_
  rintro e w1 ⟨rfl, hb1⟩
  clear hc
  go_wp2_with fail
  refine (ht _ (hr.keep (Ch.of_below hb1 (fun _ => False)) (fun _ _ _ e => e))).mono ?_
  rintro e w2 ⟨rfl, hb2⟩
  have hb2 := hb1.trans (hb2.mono hb1.size)
  clear ht hb1
  go_wp2_with fail
  go_loopw [5, 15] (fun v5 v15 wr => ∃ t : Nat, t ≤ 64 ∧ v15 = .int .i64 t ∧ wr.ownsRow w.heap.size 45 6 v5 (rowsT l t).length (turnV (rowsT l t)) ∧ Below w.heap.size w wr) (fun _ v _ => 64 - (intOf v).toNat)
  case atStart => exact ⟨0, Nat.zero_le _, rfl, own_none _ _ _ _, hb2⟩
  case round =>
    obtain ⟨t, ht, rfl, hown, hb⟩ := hrel
    by_cases hlt : t < 64
    · have hix := run_index_flat (colF l l) hlt
      simp only [rowV, colF] at hix
      have hhas := has_iff (l := l) (t := t)
      have hlen := rowsT_len l t
      have hsn := rowsT_succ l t
      simp only [rowT] at hsn
      have a1 := ans_le (l := l) (t := t)
      have a2 := opn_le (l := l) (t := t)
      generalize ans l t = p1 at *
      generalize opn l t = p2 at *
      generalize tok l t = p3 at *
      generalize lng l t = p4 at *
      generalize (psd l l t : Int) = p5 at *
      have i1 : (0 : Int) ≤ t := Int.natCast_nonneg _
      have i2 : (t : Int) < 64 := by omega
      have HS := Lib.hid hsn
      have hzr := hb.size
      clear hsn
      by_cases hp : 0 < p1 + p2
      · rw [if_pos (hhas.2 hp)] at hix
        have h2 := HS.out
        rw [if_pos hp] at h2
        have HS2 := Lib.hid h2
        have hp2 : (0 : Int) < (p1 : Int) + (p2 : Int) := by omega
        clear HS h2 hp hhas
        go_upto_region 9 with fail
        have hX := Blk.new wr 45 [.int .i64 (t : Int), .int .i64 (p1 : Int), .int .i64 (p2 : Int), .int .i64 p3, .int .i64 p4, .int .i64 p5]
        have hownx := own_keep hown ((Ch.refl (fun _ => False) _).alloc (.cells [.int .i64 (t : Int), .int .i64 (p1 : Int), .int .i64 (p2 : Int), .int .i64 p3, .int .i64 p4, .int .i64 p5].toArray 45)) (fun _ _ _ e => e)
        have hbx : Below w.heap.size w (wr.alloc (.cells [.int .i64 (t : Int), .int .i64 (p1 : Int), .int .i64 (p2 : Int), .int .i64 p3, .int .i64 p4, .int .i64 p5].toArray 45)) := by (repeat' (first | (with_reducible exact Below.refl _ _) | (with_reducible assumption) | (with_reducible refine Below.alloc ?_ ?_ _) | (with_reducible refine Below.drew ?_) | (with_reducible refine below_drewN ?_ _) | (with_reducible refine Below.setCell ?_ ?_ _) | (with_reducible refine Below.trans ?_ (Below.mono (by assumption) ?_)) | (first | go_size | (with_reducible exact Below.size (by assumption)) | (with_reducible exact Nat.le_trans (Below.size (by assumption)) (Below.size (by assumption))) | (refine Nat.le_trans (Below.size (by assumption)) ?_; go_size))))
        generalize wr.alloc (.cells [.int .i64 (t : Int), .int .i64 (p1 : Int), .int .i64 (p2 : Int), .int .i64 p3, .int .i64 p4, .int .i64 p5].toArray 45) = wx at *
        have f0 := hX.cell 0
        have f1 := hX.cell 1
        have f2 := hX.cell 2
        have f3 := hX.cell 3
        have f4 := hX.cell 4
        have f5 := hX.cell 5
        simp only [List.getElem?_cons_zero, List.getElem?_cons_succ] at f0 f1 f2 f3 f4 f5
        have hbr := Below.refl wx.heap.size wx
        have hbz := hbx.size
        clear hown hb hX hix
        go_wp2_with ((at_builtin; refine wpList_append_rd _ rfl _ _ _ rfl w.heap.size 45 i0 _ 6 48 Try.underlying41 hi0 hz0 hz1 hz2 rfl (by omega) _ _ _ rfl (own_keep (own_keep hownx (Ch.of_below hbr (fun _ => False)) (fun _ _ _ e => e)) ((Ch.refl (fun _ => False) _).alloc _) (fun _ _ _ e => e)) (some ⟨_, 0, none⟩) 1 1 [.int .i64 (t : Int), .int .i64 (p1 : Int), .int .i64 (p2 : Int), .int .i64 p3, .int .i64 p4, .int .i64 p5] rfl (Rd.of_blk (G := fun _ => True) (Blk.new _ _ [.int .i64 (t : Int), .int .i64 (p1 : Int), .int .i64 (p2 : Int), .int .i64 p3, .int .i64 p4, .int .i64 p5]) (List.prefix_refl _) trivial) (fun h => by cases h) rfl (by simp [Value.oneCell']) (by unfold maxLen; omega) (by omega) (by have := Below.size hbr; simp; omega) ?_))
        intro v3 w3 hown3 hch3 hat3
        have hb3 : Below w.heap.size w w3 := (hbx.alloc hbx.size _).trans (hch3.below (fun j hj e => ownBlock_ge hownx e) (by have := hbx.size; simp; omega))
        have hown4 : w3.ownsRow w.heap.size 45 6 v3 (rowsT l (t + 1)).length (turnV (rowsT l (t + 1))) := by rw [HS2.out, turnV_snoc, List.length_append]; exact hown3
        clear hch3 hat3 hownx hown3 f0 f1 f2 f3 f4 f5 HS2
        go_wp2_with fail
        go_roundw
        case rel => exact ⟨t + 1, by omega, by go_num, hown4, hb3⟩
        case measure => simp [intOf]; omega
      · have hp1 : p1 = 0 := by omega
        have hp2 : p2 = 0 := by omega
        subst hp1 hp2
        have h2 := HS.out
        rw [if_neg (by omega)] at h2
        have HS2 := Lib.hid h2
        clear HS h2 hp hhas
        generalize (if has l t = true then (t : Int) else 0) = p0 at *
        go_wp2_with fail
        go_roundw
        case rel => exact ⟨t + 1, by omega, by go_num, by rw [HS2.out]; exact own_keep hown ((Ch.refl (fun _ => False) _).alloc _) (fun _ _ _ e => e), by (repeat' (first | (with_reducible exact Below.refl _ _) | (with_reducible assumption) | (with_reducible refine Below.alloc ?_ ?_ _) | (with_reducible refine Below.drew ?_) | (with_reducible refine below_drewN ?_ _) | (with_reducible refine Below.setCell ?_ ?_ _) | (with_reducible refine Below.trans ?_ (Below.mono (by assumption) ?_)) | (first | go_size | (with_reducible exact Below.size (by assumption)) | (with_reducible exact Nat.le_trans (Below.size (by assumption)) (Below.size (by assumption))) | (refine Nat.le_trans (Below.size (by assumption)) ?_; go_size))))⟩
        case measure => simp [intOf]; omega
    · obtain rfl : t = 64 := by omega
      go_wp2_with fail
      go_ret2
      obtain ⟨A2, c2, rfl, k1, k2⟩ := own_slice hown
      exact ⟨A2, c2, rfl, (Rd.of_own hown).mono (fun _ _ h => h.1), k1, own_cap hown, k2, hb⟩
end Go.Proofs.Ythikpceckiapjaa
