/-
  The examples of the chapter: known returns true.
-/
import Derived.Test.YthikpceckiapjaaLFair2
namespace Go.Proofs.Ythikpceckiapjaa
open Go.RowKit

def l5 : List Ev := [ev0 0 1 9, ev0 1 2 4, ev0 1 5 8, ev0 2 3 (-1), ev0 0 10 11]
def r3 : List (List Int) := [[0, 2, 0, 9, 8, 2], [1, 2, 0, 5, 3, 0], [2, 0, 1, 0, 0, 2]]
theorem l5_one : ∀ e ∈ l5, e.one := by
  intro e he
  simp only [l5, List.mem_cons, List.not_mem_nil, or_false] at he
  rcases he with rfl | rfl | rfl | rfl | rfl <;> exact ev0_one _ _ _
theorem k_turns : turnsB l5 r3 0 = true := by decide +kernel
theorem k_even : ((evenR l5 == 666) && (errF l5 == 0)) = true := by decide +kernel
theorem k_worst : ((wstR l5 == 0) && (errF l5 == 0)) = true := by decide +kernel
def n5 : List Int := [2, 0, 0, 2, 0]
theorem k_pass : ∀ k, k < 5 → ((passR l5 (k : Nat) == n5.getD k 0) && (passE l5 (k : Nat) == 0)) = true := by decide +kernel
theorem k_err : errF l5 = 0 := by decide +kernel
theorem k_count : histF (tks l5) 42 = 4 := by decide +kernel
theorem k_sum : histF (tks l5) 43 = 14 := by decide +kernel
theorem k_even0 : ((evenR [] == 1000) && (errF [] == 0)) = true := by decide +kernel
theorem k_worst0 : ((wstR [] == -1) && (errF [] == 0)) = true := by decide +kernel
theorem k_pass5 : ((passR l5 5 == 0) && (passE l5 5 == 3)) = true := by decide +kernel
theorem k_bad : turnsB [ev0 0 5 4] [] 2 = true := by decide +kernel
theorem n5_at (k : Nat) (h : k < 5) : (n5.map (Value.int .i64))[k]? = some (.int .i64 (n5.getD k 0)) := by
  match k, h with
  | 0, _ => rfl
  | 1, _ => rfl
  | 2, _ => rfl
  | 3, _ => rfl
  | 4, _ => rfl
theorem r3_six : ∀ r ∈ r3, six r := by
  intro r hr
  simp only [r3, List.mem_cons, List.not_mem_nil, or_false] at hr
  rcases hr with rfl | rfl | rfl <;> exact ⟨_, _, _, _, _, _, rfl⟩
set_option maxRecDepth 100000 in
set_option maxHeartbeats 4000000 in
theorem known_ok (w : World) : Calls Try.prog 6 #[] w fun e w' => e = .returned (.bool true) ∧ Below w.heap.size w w' := by
  have hev := fun t a u W => event_ok t a u W
  simp only [ev0, Ev.val, Ev.cells] at hev
  go_enter Try.func6, Try.ntmps6
  go_upto_region 1 with fail
  go_cut [1] (fun s1 wx => ∃ b, s1 = .slice (some ⟨b, 0, none⟩) 5 5 ∧ Blk wx b 33 (evs l5) ∧ Below w.heap.size w wx ∧ w.heap.size ≤ b)
  case first =>
    go_wp2_with fail
    refine (hev _ _ _ _).mono ?_
    rintro e w1 ⟨rfl, hb1⟩
    have hc1 : Below w.heap.size w w1 := hb1
    clear hb1
    go_wp2_with fail
    refine (hev _ _ _ _).mono ?_
    rintro e w2 ⟨rfl, hb2⟩
    have hc2 : Below w.heap.size w w2 := hc1.trans (hb2.mono hc1.size)
    clear hb2 hc1
    go_wp2_with fail
    refine (hev _ _ _ _).mono ?_
    rintro e w3 ⟨rfl, hb3⟩
    have hc3 : Below w.heap.size w w3 := hc2.trans (hb3.mono hc2.size)
    clear hb3 hc2
    go_wp2_with fail
    refine (hev _ _ _ _).mono ?_
    rintro e w4 ⟨rfl, hb4⟩
    have hc4 : Below w.heap.size w w4 := hc3.trans (hb4.mono hc3.size)
    clear hb4 hc3
    go_wp2_with fail
    refine (hev _ _ _ _).mono ?_
    rintro e w5 ⟨rfl, hb5⟩
    have hc5 : Below w.heap.size w w5 := hc4.trans (hb5.mono hc4.size)
    clear hb5 hc4
    go_wp2_with fail
    go_meet
    exact ⟨_, rfl, Blk.new _ _ (evs l5), by (repeat' (first | (with_reducible exact Below.refl _ _) | (with_reducible assumption) | (with_reducible refine Below.alloc ?_ ?_ _) | (with_reducible refine Below.drew ?_) | (with_reducible refine below_drewN ?_ _) | (with_reducible refine Below.setCell ?_ ?_ _) | (with_reducible refine Below.trans ?_ (Below.mono (by assumption) ?_)) | (first | go_size | (with_reducible exact Below.size (by assumption)) | (with_reducible exact Nat.le_trans (Below.size (by assumption)) (Below.size (by assumption))) | (refine Nat.le_trans (Below.size (by assumption)) ?_; go_size)))), hc5.size⟩
  case rest =>
    obtain ⟨b, rfl, hL, hB, hbw⟩ := hcut
    have hR : Rd (fun _ => True) wc (some ⟨b, 0, none⟩) (evs l5) := Rd.of_blk hL (List.prefix_refl _) trivial
    have HR := Lib.hid (show ∀ W, Below wc.heap.size wc W → Rd (fun _ => True) W (some ⟨b, 0, none⟩) (evs l5) from fun W hW => hR.keep (Ch.of_below hW (fun _ => False)) (fun _ _ _ e => e))
    clear hL hR
    have ht := fun W A hW h2 => lturns_ok (some ⟨b, 0, none⟩) l5 5 5 A r3 3 3 0 W (G2 := fun _ => True) (HR.out W hW) rfl (by omega) l5_one h2 rfl (by omega) (by omega) r3_six
    have he := fun W hW => leven_ok (some ⟨b, 0, none⟩) l5 5 5 666 0 W (HR.out W hW) rfl (by omega) l5_one
    have hw := fun W hW => lworst_ok (some ⟨b, 0, none⟩) l5 5 5 0 0 W (HR.out W hW) rfl (by omega) l5_one
    rw [k_turns] at ht
    rw [k_even] at he
    rw [k_worst] at hw
    have hp := fun (k : Nat) (hk : k < 5) W hW => lpasses_ok (some ⟨b, 0, none⟩) l5 5 5 (k : Nat) (n5.getD k 0) 0 W (HR.out W hW) rfl (by omega) l5_one
    go_wp2_with fail
    refine (ht _ _ ?_ (Rd.of_blk (Blk.new _ 45 (turnV r3)) (List.prefix_refl _) trivial)).mono ?_
    · (repeat' (first | (with_reducible exact Below.refl _ _) | (with_reducible assumption) | (with_reducible refine Below.alloc ?_ ?_ _) | (with_reducible refine Below.drew ?_) | (with_reducible refine below_drewN ?_ _) | (with_reducible refine Below.setCell ?_ ?_ _) | (with_reducible refine Below.trans ?_ (Below.mono (by assumption) ?_)) | (first | go_size | (with_reducible exact Below.size (by assumption)) | (with_reducible exact Nat.le_trans (Below.size (by assumption)) (Below.size (by assumption))) | (refine Nat.le_trans (Below.size (by assumption)) ?_; go_size))))
    rintro e w1 ⟨rfl, hb1⟩
    have hb1 : Below wc.heap.size wc w1 := Below.trans ((Below.refl _ _).alloc (Nat.le_refl _) _) (hb1.mono (by simp))
    clear ht
    go_wp2_with fail
    refine (he _ hb1).mono ?_
    rintro e w2 ⟨rfl, hb2⟩
    have hb2 := hb1.trans (hb2.mono hb1.size)
    clear he hb1
    go_wp2_with fail
    refine (hw _ hb2).mono ?_
    rintro e w3 ⟨rfl, hb3⟩
    have hb3 := hb2.trans (hb3.mono hb2.size)
    clear hw hb2
    go_upto_region 5 with fail
    have hN := Blk.new w3 3 (n5.map (Value.int .i64))
    have hb4 : Below wc.heap.size wc (w3.alloc (.cells (n5.map (Value.int .i64)).toArray 3)) := by (repeat' (first | (with_reducible exact Below.refl _ _) | (with_reducible assumption) | (with_reducible refine Below.alloc ?_ ?_ _) | (with_reducible refine Below.drew ?_) | (with_reducible refine below_drewN ?_ _) | (with_reducible refine Below.setCell ?_ ?_ _) | (with_reducible refine Below.trans ?_ (Below.mono (by assumption) ?_)) | (first | go_size | (with_reducible exact Below.size (by assumption)) | (with_reducible exact Nat.le_trans (Below.size (by assumption)) (Below.size (by assumption))) | (refine Nat.le_trans (Below.size (by assumption)) ?_; go_size))))
    have e4 : w3.alloc (.cells (n5.map (Value.int .i64)).toArray 3) = w3.alloc (.cells #[.int .i64 2, .int .i64 0, .int .i64 0, .int .i64 2, .int .i64 0] 3) := rfl
    rw [e4] at hN hb4
    clear e4 hb3
    generalize w3.alloc (.cells #[.int .i64 2, .int .i64 0, .int .i64 0, .int .i64 2, .int .i64 0] 3) = w4 at hN hb4 ⊢
    go_loopw [31] (fun v wr => ∃ k : Nat, k ≤ 5 ∧ v = .int .i64 k ∧ Below w4.heap.size w4 wr) (fun v _ => 5 - (intOf v).toNat)
    case atStart => exact ⟨0, by omega, rfl, Below.refl _ _⟩
    case round =>
      obtain ⟨k, hk, rfl, hb5⟩ := hrel
      have hbr := hb4.trans (hb5.mono hb4.size)
      by_cases hlt : k < 5
      · have hcell := (Ch.of_below hb5 (fun _ => False)).keeps ((hN.cell k).trans (n5_at k hlt)) (fun e => e)
        have hpk := hp k hlt _ hbr
        rw [k_pass k hlt] at hpk
        generalize n5.getD k 0 = x at *
        have i1 : (0 : Int) ≤ k := Int.natCast_nonneg _
        have i2 : (k : Int) < 5 := by omega
        go_wp2_with (go_at_call 10; refine hpk.mono ?_; rintro e w5 ⟨rfl, hb6⟩)
        go_roundw
        case rel => exact ⟨k + 1, by omega, by go_num, by (repeat' (first | (with_reducible exact Below.refl _ _) | (with_reducible assumption) | (with_reducible refine Below.alloc ?_ ?_ _) | (with_reducible refine Below.drew ?_) | (with_reducible refine below_drewN ?_ _) | (with_reducible refine Below.setCell ?_ ?_ _) | (with_reducible refine Below.trans ?_ (Below.mono (by assumption) ?_)) | (first | go_size | (with_reducible exact Below.size (by assumption)) | (with_reducible exact Nat.le_trans (Below.size (by assumption)) (Below.size (by assumption))) | (refine Nat.le_trans (Below.size (by assumption)) ?_; go_size))))⟩
        case measure => simp [intOf]; omega
      · obtain rfl : k = 5 := by omega
        clear hp hN hb5
        have hti := fun W hW => Times_ok (some ⟨b, 0, none⟩) l5 5 5 W (HR.out W hW) rfl (by omega) l5_one
        go_wp2_with fail
        refine (hti _ hbr).mono ?_
        rintro e w5 ⟨hb6, hcase⟩
        rcases hcase with ⟨hne, _⟩ | ⟨_, hb0, hge, rfl, hH⟩
        · exact absurd k_err hne
        have hb6 := hbr.trans (hb6.mono hbr.size)
        have hco := fun W hW => count_ok hb0 (histF (tks l5)) W hW
        have hsu := fun W hW => sum_ok hb0 (histF (tks l5)) W hW
        rw [k_count] at hco
        rw [k_sum] at hsu
        have hev0 := fun W => leven_ok none [] 0 0 1000 0 W (G := fun _ => True) (Rd.nil _ _ _) rfl (by omega) (fun e he => by cases he)
        have hwo0 := fun W => lworst_ok none [] 0 0 (-1) 0 W (G := fun _ => True) (Rd.nil _ _ _) rfl (by omega) (fun e he => by cases he)
        have hp5 := fun W hW => lpasses_ok (some ⟨b, 0, none⟩) l5 5 5 5 0 3 W (HR.out W hW) rfl (by omega) l5_one
        have hbad := fun W A hW => lturns_ok A [ev0 0 5 4] 1 1 none [] 0 0 2 W (G := fun _ => True) (G2 := fun _ => True) hW rfl (by omega) (fun e he => by obtain rfl := List.mem_singleton.1 he; exact ev0_one _ _ _) (Rd.nil _ _ _) rfl (by omega) (by omega) (fun r hr => by cases hr)
        rw [k_even0] at hev0
        rw [k_worst0] at hwo0
        rw [k_pass5] at hp5
        rw [k_bad] at hbad
        clear hti hbr
        go_wp2_with fail
        refine (hco _ hH).mono ?_
        rintro e w' ⟨rfl, rfl⟩
        go_wp2_with fail
        refine (hsu _ hH).mono ?_
        rintro e w' ⟨rfl, rfl⟩
        clear hco hsu hH
        go_wp2_with fail
        refine (hev0 _).mono ?_
        rintro e w6 ⟨rfl, hb7⟩
        have hb7 := hb6.trans (hb7.mono hb6.size)
        clear hev0 hb6
        go_wp2_with fail
        refine (hwo0 _).mono ?_
        rintro e w7 ⟨rfl, hb8⟩
        have hb8 := hb7.trans (hb8.mono hb7.size)
        clear hwo0 hb7
        go_wp2_with fail
        refine (hp5 _ hb8).mono ?_
        rintro e w8 ⟨rfl, hb9⟩
        have hb9 := hb8.trans (hb9.mono hb8.size)
        clear hp5 hb8
        go_wp2_with fail
        refine (hev _ _ _ _).mono ?_
        rintro e w9 ⟨rfl, hb10⟩
        have hb10 := hb9.trans (hb10.mono hb9.size)
        clear hev hb9
        go_wp2_with fail
        refine (hbad _ _ (Rd.of_blk (Blk.new _ 33 (evs [ev0 0 5 4])) (List.prefix_refl _) trivial)).mono ?_
        rintro e w10 ⟨rfl, hb11⟩
        have hb11 : Below wc.heap.size wc w10 := (hb10.alloc hb10.size _).trans (hb11.mono (by have := hb10.size; simp; omega))
        clear hbad hb10
        go_wp2_with fail
        go_ret
        exact ⟨rfl, hB.trans (hb11.mono hB.size)⟩
end Go.Proofs.Ythikpceckiapjaa
