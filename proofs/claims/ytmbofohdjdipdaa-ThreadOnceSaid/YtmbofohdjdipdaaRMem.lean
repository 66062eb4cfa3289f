/-
  Contracts of the reference's Do, and of the law's makes over both kinds of arena.
-/
import Derived.Test.YtmbofohdjdipdaaMem5
import Derived.Test.YtmbofohdjdipdaaTOnce
import Derived.RegionTactic
import Derived.ChangeAlike
namespace Go.Proofs.Ytmbofohdjdipdaa
open Go.RowKit

theorem rkind_yes (k : Int) (w : World) (h : 1 ≤ k) (h2 : k ≤ 4) : Calls Try.prog 48 #[.int .i64 k] w fun e w' => e = .returned (.bool true) ∧ w = w' := by
  go_enter Try.func48, Try.ntmps48
  go_wp2
  go_ret
  exact ⟨rfl, rfl⟩
theorem rkind_no (k : Int) (w : World) (h : k < 1 ∨ 4 < k) : Calls Try.prog 48 #[.int .i64 k] w fun e w' => e = .returned (.bool false) ∧ w = w' := by
  rcases h with h | h
  · go_enter Try.func48, Try.ntmps48
    go_wp2
    go_ret
    exact ⟨rfl, rfl⟩
  · have h0 : 1 ≤ k := by omega
    have h1 : decide (k ≤ 4) = false := decide_eq_false (by omega)
    clear h
    go_enter Try.func48, Try.ntmps48
    go_wp2
    go_ret
    exact ⟨rfl, rfl⟩

def RDo (G : Nat → Prop) (w : World) (ws : List Int) (k i bf af : Int) (e : Ending) (w' : World) : Prop :=
  ∃ A c, e = .returned (.tuple #[.slice A ws.length c, acc4 (doK ws k i) (doI ws k i) (doB ws k i) (doA ws k i bf af), .int .i64 (doE ws k i)]) ∧
    Rd (fun b => G b ∨ w.heap.size ≤ b) w' A (u64s (doWs ws k i bf af)) ∧ ws.length ≤ c ∧ c ≤ 9223372036854775807 ∧ (A = none → c = 0) ∧ Below w.heap.size w w'
theorem doWs_len (ws : List Int) (k i bf af : Int) : (doWs ws k i bf af).length = ws.length := by unfold doWs; split <;> simp

set_option maxRecDepth 100000 in
theorem rdo_bad (A : Option Addr) (ws : List Int) (n c : Nat) (k i bf af : Int) (G : Nat → Prop) (w : World) (hr : Rd G w A (u64s ws)) (hl : ws.length = n) (hc : n ≤ c) (hcm : c ≤ 9223372036854775807) (hA : A = none → c = 0)
    (h : (k < 1 ∨ 4 < k) ∨ (i < 0 ∨ (n : Int) ≤ i)) :
    Calls Try.prog 49 #[.slice A n c, acc4 k i bf af] w (RDo G w ws k i bf af) := by
  subst hl
  have hW : Hid (doWs ws k i bf af = ws) := (show _ = _ from by unfold doWs; rw [if_neg (by omega)])
  by_cases hk : k < 1 ∨ 4 < k
  · have HE : Hid (doE ws k i = 2) := (show doE ws k i = 2 from by simp [doE, hk])
    have hP : ∀ w', Below w.heap.size w w' → RDo G w ws k i bf af (.returned (.tuple #[.slice A ws.length c, acc4 0 0 0 0, .int .i64 2])) w' := fun w' hb => by
      refine ⟨A, c, ?_, ?_, hc, hcm, hA, hb⟩
      · unfold doK doI doB doA
        rw [HE.out]; rfl
      · rw [hW.out]
        exact (hr.keep (Ch.of_below hb (fun _ => False)) (fun _ _ _ e => e)).mono (fun _ _ e => .inl e)
    clear h
    go_enter Try.func49, Try.ntmps49
    go_wp2_with (go_at_call 48; refine (rkind_no k _ hk).mono ?_; rintro e w' ⟨rfl, rfl⟩)
    refine bodyPost_ret (v := .tuple #[.slice A ws.length c, acc4 0 0 0 0, .int .i64 2]) (by simp [results, go_sem]) rfl ?_
    exact hP _ (by (repeat' (first | (with_reducible exact Below.refl _ _) | (with_reducible assumption) | (with_reducible refine Below.alloc ?_ ?_ _) | (with_reducible refine Below.drew ?_) | (with_reducible refine below_drewN ?_ _) | (with_reducible refine Below.setCell ?_ ?_ _) | (with_reducible refine Below.trans ?_ (Below.mono (by assumption) ?_)) | (first | go_size | (with_reducible exact Below.size (by assumption)) | (with_reducible exact Nat.le_trans (Below.size (by assumption)) (Below.size (by assumption))) | (refine Nat.le_trans (Below.size (by assumption)) ?_; go_size)))))
  · have hi : i < 0 ∨ (ws.length : Int) ≤ i := by omega
    have HE : Hid (doE ws k i = 3) := (show doE ws k i = 3 from by simp only [doE]; rw [if_neg hk, if_pos hi])
    have hP : ∀ w', Below w.heap.size w w' → RDo G w ws k i bf af (.returned (.tuple #[.slice A ws.length c, acc4 0 0 0 0, .int .i64 3])) w' := fun w' hb => by
      refine ⟨A, c, ?_, ?_, hc, hcm, hA, hb⟩
      · unfold doK doI doB doA
        rw [HE.out]; rfl
      · rw [hW.out]
        exact (hr.keep (Ch.of_below hb (fun _ => False)) (fun _ _ _ e => e)).mono (fun _ _ e => .inl e)
    have hk1 : 1 ≤ k := by omega
    have hk2 : k ≤ 4 := by omega
    clear h hk
    rcases hi with hi | hi
    · go_enter Try.func49, Try.ntmps49
      go_wp2_with (go_at_call 48; refine (rkind_yes k _ hk1 hk2).mono ?_; rintro e w' ⟨rfl, rfl⟩)
      refine bodyPost_ret (v := .tuple #[.slice A ws.length c, acc4 0 0 0 0, .int .i64 3]) (by simp [results, go_sem]) rfl ?_
      exact hP _ (by (repeat' (first | (with_reducible exact Below.refl _ _) | (with_reducible assumption) | (with_reducible refine Below.alloc ?_ ?_ _) | (with_reducible refine Below.drew ?_) | (with_reducible refine below_drewN ?_ _) | (with_reducible refine Below.setCell ?_ ?_ _) | (with_reducible refine Below.trans ?_ (Below.mono (by assumption) ?_)) | (first | go_size | (with_reducible exact Below.size (by assumption)) | (with_reducible exact Nat.le_trans (Below.size (by assumption)) (Below.size (by assumption))) | (refine Nat.le_trans (Below.size (by assumption)) ?_; go_size)))))
    · have i1 : decide (i < 0) = false := decide_eq_false (by omega)
      have i2 : decide ((ws.length : Int) ≤ i) = true := decide_eq_true hi
      go_enter Try.func49, Try.ntmps49
      go_wp2_with (go_at_call 48; refine (rkind_yes k _ hk1 hk2).mono ?_; rintro e w' ⟨rfl, rfl⟩)
      refine bodyPost_ret (v := .tuple #[.slice A ws.length c, acc4 0 0 0 0, .int .i64 3]) (by simp [results, go_sem]) rfl ?_
      exact hP _ (by (repeat' (first | (with_reducible exact Below.refl _ _) | (with_reducible assumption) | (with_reducible refine Below.alloc ?_ ?_ _) | (with_reducible refine Below.drew ?_) | (with_reducible refine below_drewN ?_ _) | (with_reducible refine Below.setCell ?_ ?_ _) | (with_reducible refine Below.trans ?_ (Below.mono (by assumption) ?_)) | (first | go_size | (with_reducible exact Below.size (by assumption)) | (with_reducible exact Nat.le_trans (Below.size (by assumption)) (Below.size (by assumption))) | (refine Nat.le_trans (Below.size (by assumption)) ?_; go_size)))))

/-- a slice of the call's own, one of its words changed -/
theorem own_blk {w : World} {base n : Nat} {v : Value} {xs : List Int} (h : w.ownsRow base 33 1 v n (u64s xs)) (hn : 1 ≤ n) :
    ∃ g c cur, base ≤ g ∧ v = .slice (some ⟨g, 0, none⟩) n c ∧ n ≤ c ∧ c ≤ 9223372036854775807 ∧ Blk w g 33 (u64s xs ++ cur) ∧ xs.length = n := by
  rcases h.2 with ⟨_, h0⟩ | ⟨g, cap, cur, rfl, hg, hc, h1, h2, h3, h4⟩
  · have := h.1
    rw [h0] at this
    simp at this
    omega
  · have hB : Blk w g 33 cur.toList := by unfold Blk; simpa using hc
    refine ⟨g, cap, cur.toList.drop (n * 1), hg, rfl, h1, by unfold maxLen at h2; omega, ?_, by have := h.1; simpa [u64s] using this⟩
    rw [← h4, List.take_append_drop]
    exact hB
theorem blk_set {w : World} {g : Nat} {xs : List Int} {cur : List Value} (h : Blk w g 33 (u64s xs ++ cur)) (j : Nat) (hj : j < xs.length) (x : Int) :
    Blk (w.setCell ⟨g, j, none⟩ (.int .u64 x)) g 33 (u64s (xs.set j x) ++ cur) := by
  have hs := h.set j (.int .u64 x)
  have e : (u64s xs ++ cur).set j (.int .u64 x) = u64s (xs.set j x) ++ cur := by
    rw [List.set_append_left _ _ (by simpa [u64s] using hj)]
    simp [u64s, List.map_set]
  rw [e] at hs
  exact hs
theorem doA_ok (ws : List Int) (k : Int) (j : Nat) (bf af : Int) (hk : k = 1 ∨ k = 2 ∨ k = 3 ∨ k = 4) (hj : j < ws.length) :
    doE ws k j = 0 ∧ doWs ws k j bf af = ws.set j (if k = 1 ∨ (k = 3 ∧ ws.getD j 0 ≠ bf) then ws.getD j 0 else af) := by
  refine ⟨by unfold doE; rw [if_neg (by omega), if_neg (by omega)], ?_⟩
  unfold doWs
  simp only [Int.toNat_natCast]
  have e : ws.set j (ws.getD j 0) = ws := by simp [List.getD, List.getElem?_eq_getElem hj]
  by_cases h1 : k = 1 ∨ (k = 3 ∧ ws.getD j 0 ≠ bf)
  · rw [if_neg (by omega), if_pos h1, e]
  · rw [if_pos (by omega), if_neg h1]
theorem rdo_fin {G : Nat → Prop} {w w1 w2 : World} {ws : List Int} {k : Int} {j : Nat} {bf af x : Int} {g c : Nat} {cur : List Value} (hk : k = 1 ∨ k = 2 ∨ k = 3 ∨ k = 4) (hj : j < ws.length) (hx : x = if k = 1 ∨ (k = 3 ∧ ws.getD j 0 ≠ bf) then ws.getD j 0 else af)
    (hB : Blk w1 g 33 (u64s ws ++ cur)) (hg : w.heap.size ≤ g) (hc : ws.length ≤ c) (hcm : c ≤ 9223372036854775807) (hgn : g ≠ w.heap.size + 1) (h1 : Below w.heap.size w w1) (h2 : Ch (fun q => q = w.heap.size + 1) (w1.setCell ⟨g, j, none⟩ (.int .u64 x)) w2) :
    RDo G w ws k j bf af (.returned (.tuple #[.slice (some ⟨g, 0, none⟩) ws.length c, acc4 k j (ws.getD j 0) x, .int .i64 0])) w2 := by
  obtain ⟨hE, hW⟩ := doA_ok ws k j bf af hk hj
  rw [← hx] at hW
  refine ⟨some ⟨g, 0, none⟩, c, ?_, ?_, hc, hcm, (fun e => by cases e), ?_⟩
  · unfold doK doI doB doA
    rw [hE, hW]
    simp [hj]
  · rw [hW]
    exact Rd.of_blk ((blk_set hB j hj x).keep h2 hgn) (List.prefix_append _ _) (.inr hg)
  · have hs := h1.size
    exact (h1.setCell hg _).trans (h2.below (fun k _ e => by omega) (by simpa [World.setCell] using hs))
theorem ch4 (W : World) (n q : Nat) (a b c d : Value) : Ch (fun k => k = q) W (((((W.drewN n).setCell ⟨q, 0, none⟩ a).setCell ⟨q, 1, none⟩ b).setCell ⟨q, 2, none⟩ c).setCell ⟨q, 3, none⟩ d) :=
  (((((Ch.refl (fun k => k = q) W).drewN n).setCell (p := ⟨q, 0, none⟩) (.inl rfl) a).setCell (p := ⟨q, 1, none⟩) (.inl rfl) b).setCell (p := ⟨q, 2, none⟩) (.inl rfl) c).setCell (p := ⟨q, 3, none⟩) (.inl rfl) d
set_option maxRecDepth 100000 in
set_option maxHeartbeats 2000000 in
theorem rdo_ok (A : Option Addr) (ws : List Int) (n c : Nat) (k : Int) (j : Nat) (bf af : Int) (G : Nat → Prop) (w : World) (hr : Rd G w A (u64s ws)) (hl : ws.length = n) (hc : n ≤ c) (hn : n ≤ 100000) (hA : A = none → c = 0)
    (hk : k = 1 ∨ k = 2 ∨ k = 3 ∨ k = 4) (hj : j < n) :
    Calls Try.prog 49 #[.slice A n c, acc4 k j bf af] w (RDo G w ws k j bf af) := by
  subst hl
  obtain ⟨i0, hi0, hz0, hz1, hz2⟩ := info_parts u64Info
  obtain ⟨b0, o0, rfl, hb0, hcx⟩ := rd_u64 hr hj
  obtain ⟨x, hX⟩ : ∃ x, x = ws.getD j 0 := ⟨_, rfl⟩
  rw [← hX] at hcx
  have HX := Lib.hid hX
  have hk1 : 1 ≤ k := by omega
  have hk2 : k ≤ 4 := by omega
  have hjI : (j : Int) < ws.length := by omega
  have i1 : decide ((j : Int) < 0) = false := decide_eq_false (by omega)
  have i2 : decide ((ws.length : Int) ≤ j) = false := decide_eq_false (by omega)
  have i3 : (0 : Int) ≤ j := by omega
  have hF := fun (w1 w2 : World) (g c : Nat) (cur : List Value) (y : Int) (hy : y = if k = 1 ∨ (k = 3 ∧ x ≠ bf) then x else af) hB hg hc hcm hgn h1 h2 => rdo_fin (G := G) (w := w) (w1 := w1) (w2 := w2) (af := af) (bf := bf) (x := y) (c := c) (cur := cur) (g := g) hk hj (by rw [hy, HX.out]) hB hg hc hcm hgn h1 h2
  rw [← hX] at hF
  have HF := Lib.hid hF
  clear hF hX
  have hcase : k = 1 ∨ k = 2 ∨ k = 4 ∨ (k = 3 ∧ x = bf) ∨ (k = 3 ∧ x ≠ bf) := by omega
  clear hk
  rcases hcase with rfl | rfl | rfl | ⟨rfl, hxb⟩ | ⟨rfl, hxb⟩
  · (go_enter Try.func49, Try.ntmps49; go_wp2_with (first | (go_at_call 48; refine (rkind_yes _ _ hk1 hk2).mono ?_; rintro e w' ⟨rfl, rfl⟩) | (at_builtin; refine wpList_append_rd _ rfl _ _ _ rfl (w.heap.size + 2) 33 i0 _ 1 8 Try.underlying22 hi0 hz0 hz1 hz2 rfl (by omega) _ 0 [] rfl (own_none _ _ _ _) (some ⟨b0, o0, none⟩) ws.length c (u64s ws) rfl (hr.keep (Ch.of_below (by (repeat' (first | (with_reducible exact Below.refl _ _) | (with_reducible assumption) | (with_reducible refine Below.alloc ?_ ?_ _) | (with_reducible refine Below.drew ?_) | (with_reducible refine below_drewN ?_ _) | (with_reducible refine Below.setCell ?_ ?_ _) | (with_reducible refine Below.trans ?_ (Below.mono (by assumption) ?_)) | (first | go_size | (with_reducible exact Below.size (by assumption)) | (with_reducible exact Nat.le_trans (Below.size (by assumption)) (Below.size (by assumption))) | (refine Nat.le_trans (Below.size (by assumption)) ?_; go_size)))) : Below w.heap.size w _) (fun _ => False)) (fun _ _ _ e => e)) hA (by simp [u64s]) (oneCell_ints _ _) (by unfold maxLen; omega) (by omega) (by go_size) ?_)); intro v1 w1 hown1 hch hat; have hbs := hch.belowSelf (fun j hj e => by simp [Value.ownBlock] at e); have hb1 : Below w.heap.size w w1 := Below.trans (by (repeat' (first | (with_reducible exact Below.refl _ _) | (with_reducible assumption) | (with_reducible refine Below.alloc ?_ ?_ _) | (with_reducible refine Below.drew ?_) | (with_reducible refine below_drewN ?_ _) | (with_reducible refine Below.setCell ?_ ?_ _) | (with_reducible refine Below.trans ?_ (Below.mono (by assumption) ?_)) | (first | go_size | (with_reducible exact Below.size (by assumption)) | (with_reducible exact Nat.le_trans (Below.size (by assumption)) (Below.size (by assumption))) | (refine Nat.le_trans (Below.size (by assumption)) ?_; go_size))))) (hbs.mono (by go_size)); ((refine keepA hch (q := w.heap.size) (v0 := .int .i64 1) (v1 := .int .i64 j) (v2 := .int .u64 bf) (v3 := .int .u64 af) ?_ ?_ ?_ ?_ ?_ ?_ (fun q0 q1 q2 q3 qf ql => ?_)); (focus (go_cell)); (focus (go_cell)); (focus (go_cell)); (focus (go_cell)); (focus (intro ii; go_simp)); (focus (simp [Value.ownBlock]))); ((refine keepA hch (q := w.heap.size + 1) (v0 := .int .i64 0) (v1 := .int .i64 0) (v2 := .int .u64 0) (v3 := .int .u64 0) ?_ ?_ ?_ ?_ ?_ ?_ (fun r0 r1 r2 r3 rf rl => ?_)); (focus (go_cell)); (focus (go_cell)); (focus (go_cell)); (focus (go_cell)); (focus (intro ii; go_simp)); (focus (simp [Value.ownBlock]))); obtain ⟨g, c1, cur, hg, rfl, hc1, hcm1, hB, _⟩ := own_blk hown1 (by omega); have gj : w1.cell? ⟨g, j, none⟩ = some (.int .u64 x) := (by rw [hB.cell, List.getElem?_append_left (by simpa [u64s] using hj), HX.out]; exact u64s_at ws j hj); have gf := hB.frozen j; have gn1 : g ≠ w.heap.size := (by omega); have gn2 := gn1.symm; have gn3 : g ≠ w.heap.size + 1 := (by omega); have gn4 := gn3.symm; have gc : (j : Int) < c1 := (by omega); clear hown1 hch hat; go_wp2_with (first | ((with_reducible refine still_tail (id := 11) 9 (by kernel_rfl) (by kernel_rfl) ?_); simp only [List.take_succ_cons, List.take_zero, List.drop_succ_cons, List.drop_zero]; (repeat still_step); refine wpStill_nil ?_)); refine bodyPost_ret (v := .tuple #[.slice (some ⟨g, 0, none⟩) ws.length c1, acc4 1 j x x, .int .i64 0]) (by simp [results, go_sem, r0, r1, r2, r3]) rfl ?_)
    exact HF.out _ _ g c1 cur x (by simp) hB (by omega) hc1 hcm1 gn3 hb1 (ch4 _ _ _ _ _ _ _)
  · (go_enter Try.func49, Try.ntmps49; go_wp2_with (first | (go_at_call 48; refine (rkind_yes _ _ hk1 hk2).mono ?_; rintro e w' ⟨rfl, rfl⟩) | (at_builtin; refine wpList_append_rd _ rfl _ _ _ rfl (w.heap.size + 2) 33 i0 _ 1 8 Try.underlying22 hi0 hz0 hz1 hz2 rfl (by omega) _ 0 [] rfl (own_none _ _ _ _) (some ⟨b0, o0, none⟩) ws.length c (u64s ws) rfl (hr.keep (Ch.of_below (by (repeat' (first | (with_reducible exact Below.refl _ _) | (with_reducible assumption) | (with_reducible refine Below.alloc ?_ ?_ _) | (with_reducible refine Below.drew ?_) | (with_reducible refine below_drewN ?_ _) | (with_reducible refine Below.setCell ?_ ?_ _) | (with_reducible refine Below.trans ?_ (Below.mono (by assumption) ?_)) | (first | go_size | (with_reducible exact Below.size (by assumption)) | (with_reducible exact Nat.le_trans (Below.size (by assumption)) (Below.size (by assumption))) | (refine Nat.le_trans (Below.size (by assumption)) ?_; go_size)))) : Below w.heap.size w _) (fun _ => False)) (fun _ _ _ e => e)) hA (by simp [u64s]) (oneCell_ints _ _) (by unfold maxLen; omega) (by omega) (by go_size) ?_)); intro v1 w1 hown1 hch hat; have hbs := hch.belowSelf (fun j hj e => by simp [Value.ownBlock] at e); have hb1 : Below w.heap.size w w1 := Below.trans (by (repeat' (first | (with_reducible exact Below.refl _ _) | (with_reducible assumption) | (with_reducible refine Below.alloc ?_ ?_ _) | (with_reducible refine Below.drew ?_) | (with_reducible refine below_drewN ?_ _) | (with_reducible refine Below.setCell ?_ ?_ _) | (with_reducible refine Below.trans ?_ (Below.mono (by assumption) ?_)) | (first | go_size | (with_reducible exact Below.size (by assumption)) | (with_reducible exact Nat.le_trans (Below.size (by assumption)) (Below.size (by assumption))) | (refine Nat.le_trans (Below.size (by assumption)) ?_; go_size))))) (hbs.mono (by go_size)); ((refine keepA hch (q := w.heap.size) (v0 := .int .i64 2) (v1 := .int .i64 j) (v2 := .int .u64 bf) (v3 := .int .u64 af) ?_ ?_ ?_ ?_ ?_ ?_ (fun q0 q1 q2 q3 qf ql => ?_)); (focus (go_cell)); (focus (go_cell)); (focus (go_cell)); (focus (go_cell)); (focus (intro ii; go_simp)); (focus (simp [Value.ownBlock]))); ((refine keepA hch (q := w.heap.size + 1) (v0 := .int .i64 0) (v1 := .int .i64 0) (v2 := .int .u64 0) (v3 := .int .u64 0) ?_ ?_ ?_ ?_ ?_ ?_ (fun r0 r1 r2 r3 rf rl => ?_)); (focus (go_cell)); (focus (go_cell)); (focus (go_cell)); (focus (go_cell)); (focus (intro ii; go_simp)); (focus (simp [Value.ownBlock]))); obtain ⟨g, c1, cur, hg, rfl, hc1, hcm1, hB, _⟩ := own_blk hown1 (by omega); have gj : w1.cell? ⟨g, j, none⟩ = some (.int .u64 x) := (by rw [hB.cell, List.getElem?_append_left (by simpa [u64s] using hj), HX.out]; exact u64s_at ws j hj); have gf := hB.frozen j; have gn1 : g ≠ w.heap.size := (by omega); have gn2 := gn1.symm; have gn3 : g ≠ w.heap.size + 1 := (by omega); have gn4 := gn3.symm; have gc : (j : Int) < c1 := (by omega); clear hown1 hch hat; go_wp2_with (first | ((with_reducible refine still_tail (id := 11) 9 (by kernel_rfl) (by kernel_rfl) ?_); simp only [List.take_succ_cons, List.take_zero, List.drop_succ_cons, List.drop_zero]; (repeat still_step); refine wpStill_nil ?_)); refine bodyPost_ret (v := .tuple #[.slice (some ⟨g, 0, none⟩) ws.length c1, acc4 2 j x af, .int .i64 0]) (by simp [results, go_sem, r0, r1, r2, r3]) rfl ?_)
    exact HF.out _ _ g c1 cur af (by simp) hB (by omega) hc1 hcm1 gn3 hb1 (ch4 _ _ _ _ _ _ _)
  · (go_enter Try.func49, Try.ntmps49; go_wp2_with (first | (go_at_call 48; refine (rkind_yes _ _ hk1 hk2).mono ?_; rintro e w' ⟨rfl, rfl⟩) | (at_builtin; refine wpList_append_rd _ rfl _ _ _ rfl (w.heap.size + 2) 33 i0 _ 1 8 Try.underlying22 hi0 hz0 hz1 hz2 rfl (by omega) _ 0 [] rfl (own_none _ _ _ _) (some ⟨b0, o0, none⟩) ws.length c (u64s ws) rfl (hr.keep (Ch.of_below (by (repeat' (first | (with_reducible exact Below.refl _ _) | (with_reducible assumption) | (with_reducible refine Below.alloc ?_ ?_ _) | (with_reducible refine Below.drew ?_) | (with_reducible refine below_drewN ?_ _) | (with_reducible refine Below.setCell ?_ ?_ _) | (with_reducible refine Below.trans ?_ (Below.mono (by assumption) ?_)) | (first | go_size | (with_reducible exact Below.size (by assumption)) | (with_reducible exact Nat.le_trans (Below.size (by assumption)) (Below.size (by assumption))) | (refine Nat.le_trans (Below.size (by assumption)) ?_; go_size)))) : Below w.heap.size w _) (fun _ => False)) (fun _ _ _ e => e)) hA (by simp [u64s]) (oneCell_ints _ _) (by unfold maxLen; omega) (by omega) (by go_size) ?_)); intro v1 w1 hown1 hch hat; have hbs := hch.belowSelf (fun j hj e => by simp [Value.ownBlock] at e); have hb1 : Below w.heap.size w w1 := Below.trans (by (repeat' (first | (with_reducible exact Below.refl _ _) | (with_reducible assumption) | (with_reducible refine Below.alloc ?_ ?_ _) | (with_reducible refine Below.drew ?_) | (with_reducible refine below_drewN ?_ _) | (with_reducible refine Below.setCell ?_ ?_ _) | (with_reducible refine Below.trans ?_ (Below.mono (by assumption) ?_)) | (first | go_size | (with_reducible exact Below.size (by assumption)) | (with_reducible exact Nat.le_trans (Below.size (by assumption)) (Below.size (by assumption))) | (refine Nat.le_trans (Below.size (by assumption)) ?_; go_size))))) (hbs.mono (by go_size)); ((refine keepA hch (q := w.heap.size) (v0 := .int .i64 4) (v1 := .int .i64 j) (v2 := .int .u64 bf) (v3 := .int .u64 af) ?_ ?_ ?_ ?_ ?_ ?_ (fun q0 q1 q2 q3 qf ql => ?_)); (focus (go_cell)); (focus (go_cell)); (focus (go_cell)); (focus (go_cell)); (focus (intro ii; go_simp)); (focus (simp [Value.ownBlock]))); ((refine keepA hch (q := w.heap.size + 1) (v0 := .int .i64 0) (v1 := .int .i64 0) (v2 := .int .u64 0) (v3 := .int .u64 0) ?_ ?_ ?_ ?_ ?_ ?_ (fun r0 r1 r2 r3 rf rl => ?_)); (focus (go_cell)); (focus (go_cell)); (focus (go_cell)); (focus (go_cell)); (focus (intro ii; go_simp)); (focus (simp [Value.ownBlock]))); obtain ⟨g, c1, cur, hg, rfl, hc1, hcm1, hB, _⟩ := own_blk hown1 (by omega); have gj : w1.cell? ⟨g, j, none⟩ = some (.int .u64 x) := (by rw [hB.cell, List.getElem?_append_left (by simpa [u64s] using hj), HX.out]; exact u64s_at ws j hj); have gf := hB.frozen j; have gn1 : g ≠ w.heap.size := (by omega); have gn2 := gn1.symm; have gn3 : g ≠ w.heap.size + 1 := (by omega); have gn4 := gn3.symm; have gc : (j : Int) < c1 := (by omega); clear hown1 hch hat; go_wp2_with (first | ((with_reducible refine still_tail (id := 11) 9 (by kernel_rfl) (by kernel_rfl) ?_); simp only [List.take_succ_cons, List.take_zero, List.drop_succ_cons, List.drop_zero]; (repeat still_step); refine wpStill_nil ?_)); refine bodyPost_ret (v := .tuple #[.slice (some ⟨g, 0, none⟩) ws.length c1, acc4 4 j x af, .int .i64 0]) (by simp [results, go_sem, r0, r1, r2, r3]) rfl ?_)
    exact HF.out _ _ g c1 cur af (by simp) hB (by omega) hc1 hcm1 gn3 hb1 (ch4 _ _ _ _ _ _ _)
  · have e1 : (x != bf) = false := by simpa using hxb
    have HXB := Lib.hid hxb
    clear hxb
    (go_enter Try.func49, Try.ntmps49; go_wp2_with (first | (go_at_call 48; refine (rkind_yes _ _ hk1 hk2).mono ?_; rintro e w' ⟨rfl, rfl⟩) | (at_builtin; refine wpList_append_rd _ rfl _ _ _ rfl (w.heap.size + 2) 33 i0 _ 1 8 Try.underlying22 hi0 hz0 hz1 hz2 rfl (by omega) _ 0 [] rfl (own_none _ _ _ _) (some ⟨b0, o0, none⟩) ws.length c (u64s ws) rfl (hr.keep (Ch.of_below (by (repeat' (first | (with_reducible exact Below.refl _ _) | (with_reducible assumption) | (with_reducible refine Below.alloc ?_ ?_ _) | (with_reducible refine Below.drew ?_) | (with_reducible refine below_drewN ?_ _) | (with_reducible refine Below.setCell ?_ ?_ _) | (with_reducible refine Below.trans ?_ (Below.mono (by assumption) ?_)) | (first | go_size | (with_reducible exact Below.size (by assumption)) | (with_reducible exact Nat.le_trans (Below.size (by assumption)) (Below.size (by assumption))) | (refine Nat.le_trans (Below.size (by assumption)) ?_; go_size)))) : Below w.heap.size w _) (fun _ => False)) (fun _ _ _ e => e)) hA (by simp [u64s]) (oneCell_ints _ _) (by unfold maxLen; omega) (by omega) (by go_size) ?_)); intro v1 w1 hown1 hch hat; have hbs := hch.belowSelf (fun j hj e => by simp [Value.ownBlock] at e); have hb1 : Below w.heap.size w w1 := Below.trans (by (repeat' (first | (with_reducible exact Below.refl _ _) | (with_reducible assumption) | (with_reducible refine Below.alloc ?_ ?_ _) | (with_reducible refine Below.drew ?_) | (with_reducible refine below_drewN ?_ _) | (with_reducible refine Below.setCell ?_ ?_ _) | (with_reducible refine Below.trans ?_ (Below.mono (by assumption) ?_)) | (first | go_size | (with_reducible exact Below.size (by assumption)) | (with_reducible exact Nat.le_trans (Below.size (by assumption)) (Below.size (by assumption))) | (refine Nat.le_trans (Below.size (by assumption)) ?_; go_size))))) (hbs.mono (by go_size)); ((refine keepA hch (q := w.heap.size) (v0 := .int .i64 3) (v1 := .int .i64 j) (v2 := .int .u64 bf) (v3 := .int .u64 af) ?_ ?_ ?_ ?_ ?_ ?_ (fun q0 q1 q2 q3 qf ql => ?_)); (focus (go_cell)); (focus (go_cell)); (focus (go_cell)); (focus (go_cell)); (focus (intro ii; go_simp)); (focus (simp [Value.ownBlock]))); ((refine keepA hch (q := w.heap.size + 1) (v0 := .int .i64 0) (v1 := .int .i64 0) (v2 := .int .u64 0) (v3 := .int .u64 0) ?_ ?_ ?_ ?_ ?_ ?_ (fun r0 r1 r2 r3 rf rl => ?_)); (focus (go_cell)); (focus (go_cell)); (focus (go_cell)); (focus (go_cell)); (focus (intro ii; go_simp)); (focus (simp [Value.ownBlock]))); obtain ⟨g, c1, cur, hg, rfl, hc1, hcm1, hB, _⟩ := own_blk hown1 (by omega); have gj : w1.cell? ⟨g, j, none⟩ = some (.int .u64 x) := (by rw [hB.cell, List.getElem?_append_left (by simpa [u64s] using hj), HX.out]; exact u64s_at ws j hj); have gf := hB.frozen j; have gn1 : g ≠ w.heap.size := (by omega); have gn2 := gn1.symm; have gn3 : g ≠ w.heap.size + 1 := (by omega); have gn4 := gn3.symm; have gc : (j : Int) < c1 := (by omega); clear hown1 hch hat; go_wp2_with (first | ((with_reducible refine still_tail (id := 11) 9 (by kernel_rfl) (by kernel_rfl) ?_); simp only [List.take_succ_cons, List.take_zero, List.drop_succ_cons, List.drop_zero]; (repeat still_step); refine wpStill_nil ?_)); refine bodyPost_ret (v := .tuple #[.slice (some ⟨g, 0, none⟩) ws.length c1, acc4 3 j x af, .int .i64 0]) (by simp [results, go_sem, r0, r1, r2, r3]) rfl ?_)
    exact HF.out _ _ g c1 cur af (by simp [HXB.out]) hB (by omega) hc1 hcm1 gn3 hb1 (ch4 _ _ _ _ _ _ _)
  · have e1 : (x != bf) = true := by simpa using hxb
    have HXB := Lib.hid hxb
    clear hxb
    (go_enter Try.func49, Try.ntmps49; go_wp2_with (first | (go_at_call 48; refine (rkind_yes _ _ hk1 hk2).mono ?_; rintro e w' ⟨rfl, rfl⟩) | (at_builtin; refine wpList_append_rd _ rfl _ _ _ rfl (w.heap.size + 2) 33 i0 _ 1 8 Try.underlying22 hi0 hz0 hz1 hz2 rfl (by omega) _ 0 [] rfl (own_none _ _ _ _) (some ⟨b0, o0, none⟩) ws.length c (u64s ws) rfl (hr.keep (Ch.of_below (by (repeat' (first | (with_reducible exact Below.refl _ _) | (with_reducible assumption) | (with_reducible refine Below.alloc ?_ ?_ _) | (with_reducible refine Below.drew ?_) | (with_reducible refine below_drewN ?_ _) | (with_reducible refine Below.setCell ?_ ?_ _) | (with_reducible refine Below.trans ?_ (Below.mono (by assumption) ?_)) | (first | go_size | (with_reducible exact Below.size (by assumption)) | (with_reducible exact Nat.le_trans (Below.size (by assumption)) (Below.size (by assumption))) | (refine Nat.le_trans (Below.size (by assumption)) ?_; go_size)))) : Below w.heap.size w _) (fun _ => False)) (fun _ _ _ e => e)) hA (by simp [u64s]) (oneCell_ints _ _) (by unfold maxLen; omega) (by omega) (by go_size) ?_)); intro v1 w1 hown1 hch hat; have hbs := hch.belowSelf (fun j hj e => by simp [Value.ownBlock] at e); have hb1 : Below w.heap.size w w1 := Below.trans (by (repeat' (first | (with_reducible exact Below.refl _ _) | (with_reducible assumption) | (with_reducible refine Below.alloc ?_ ?_ _) | (with_reducible refine Below.drew ?_) | (with_reducible refine below_drewN ?_ _) | (with_reducible refine Below.setCell ?_ ?_ _) | (with_reducible refine Below.trans ?_ (Below.mono (by assumption) ?_)) | (first | go_size | (with_reducible exact Below.size (by assumption)) | (with_reducible exact Nat.le_trans (Below.size (by assumption)) (Below.size (by assumption))) | (refine Nat.le_trans (Below.size (by assumption)) ?_; go_size))))) (hbs.mono (by go_size)); ((refine keepA hch (q := w.heap.size) (v0 := .int .i64 3) (v1 := .int .i64 j) (v2 := .int .u64 bf) (v3 := .int .u64 af) ?_ ?_ ?_ ?_ ?_ ?_ (fun q0 q1 q2 q3 qf ql => ?_)); (focus (go_cell)); (focus (go_cell)); (focus (go_cell)); (focus (go_cell)); (focus (intro ii; go_simp)); (focus (simp [Value.ownBlock]))); ((refine keepA hch (q := w.heap.size + 1) (v0 := .int .i64 0) (v1 := .int .i64 0) (v2 := .int .u64 0) (v3 := .int .u64 0) ?_ ?_ ?_ ?_ ?_ ?_ (fun r0 r1 r2 r3 rf rl => ?_)); (focus (go_cell)); (focus (go_cell)); (focus (go_cell)); (focus (go_cell)); (focus (intro ii; go_simp)); (focus (simp [Value.ownBlock]))); obtain ⟨g, c1, cur, hg, rfl, hc1, hcm1, hB, _⟩ := own_blk hown1 (by omega); have gj : w1.cell? ⟨g, j, none⟩ = some (.int .u64 x) := (by rw [hB.cell, List.getElem?_append_left (by simpa [u64s] using hj), HX.out]; exact u64s_at ws j hj); have gf := hB.frozen j; have gn1 : g ≠ w.heap.size := (by omega); have gn2 := gn1.symm; have gn3 : g ≠ w.heap.size + 1 := (by omega); have gn4 := gn3.symm; have gc : (j : Int) < c1 := (by omega); clear hown1 hch hat; go_wp2_with (first | ((with_reducible refine still_tail (id := 11) 9 (by kernel_rfl) (by kernel_rfl) ?_); simp only [List.take_succ_cons, List.take_zero, List.drop_succ_cons, List.drop_zero]; (repeat still_step); refine wpStill_nil ?_)); refine bodyPost_ret (v := .tuple #[.slice (some ⟨g, 0, none⟩) ws.length c1, acc4 3 j x x, .int .i64 0]) (by simp [results, go_sem, r0, r1, r2, r3]) rfl ?_)
    exact HF.out _ _ g c1 cur x (by simp [HXB.out]) hB (by omega) hc1 hcm1 gn3 hb1 (ch4 _ _ _ _ _ _ _)
theorem rdo_any (A : Option Addr) (ws : List Int) (n c : Nat) (k i bf af : Int) (G : Nat → Prop) (w : World) (hr : Rd G w A (u64s ws)) (hl : ws.length = n) (hc : n ≤ c) (hcm : c ≤ 9223372036854775807) (hn : n ≤ 100000) (hA : A = none → c = 0) :
    Calls Try.prog 49 #[.slice A n c, acc4 k i bf af] w (RDo G w ws k i bf af) := by
  by_cases h : (k < 1 ∨ 4 < k) ∨ (i < 0 ∨ (n : Int) ≤ i)
  · exact rdo_bad A ws n c k i bf af G w hr hl hc hcm hA h
  · obtain ⟨j, rfl⟩ : ∃ j : Nat, i = j := ⟨i.toNat, by omega⟩
    exact rdo_ok A ws n c k j bf af G w hr hl hc hn hA (by omega) (by omega)
def RDoN (G : Nat → Prop) (w : World) (n : Nat) (ws : List Int) (k i bf af : Int) (e : Ending) (w' : World) : Prop :=
  ∃ A c, e = .returned (.tuple #[.slice A n c, acc4 (doK ws k i) (doI ws k i) (doB ws k i) (doA ws k i bf af), .int .i64 (doE ws k i)]) ∧
    Rd (fun b => G b ∨ w.heap.size ≤ b) w' A (u64s (doWs ws k i bf af)) ∧ n ≤ c ∧ c ≤ 9223372036854775807 ∧ (A = none → c = 0) ∧ Below w.heap.size w w'
theorem rdo_n (A : Option Addr) (ws : List Int) (n c : Nat) (k i bf af : Int) (G : Nat → Prop) (w : World) (hr : Rd G w A (u64s ws)) (hl : ws.length = n) (hc : n ≤ c) (hcm : c ≤ 9223372036854775807) (hn : n ≤ 100000) (hA : A = none → c = 0) :
    Calls Try.prog 49 #[.slice A n c, acc4 k i bf af] w (RDoN G w n ws k i bf af) := by
  refine (rdo_any A ws n c k i bf af G w hr hl hc hcm hn hA).mono ?_
  subst hl
  exact fun _ _ h => h
end Go.Proofs.Ytmbofohdjdipdaa
