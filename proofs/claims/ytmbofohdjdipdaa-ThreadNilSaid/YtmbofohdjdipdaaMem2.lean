/-
  Contracts of package mem, second part: an access that is made.
-/
import Derived.Test.YtmbofohdjdipdaaMem
import Derived.StillTailTactics
namespace Go.Proofs.Ytmbofohdjdipdaa
open Go.RowKit

theorem still_tail {P : Program} {id : Nat} {Q : Exit → Act → World → Prop} {a : Act} {w : World} {l : List Oper} (n : Nat) (hm : P.follows .mixedOrders = true) (hB : Region.lexTailB .any l.toArray n = true)
    (h : wpStill P l.toArray (w.drewN 1) (fun a' => wpList P l.toArray Q (l.drop n) a' (w.drewN 1)) (l.take n) a) : (Code.region id l.toArray true).wp P Q a w :=
  wp_region_still_tail n hm hB h
theorem at_region {P : Program} {id : Nat} {Q : Exit → Act → World → Prop} {a : Act} {w : World} {l : Array Oper} {d : Bool} (_i : Nat) (_e : id = _i) (h : (Code.region id l d).wp P Q a w) : (Code.region id l d).wp P Q a w := h


theorem MemAt.belowB {w w' : World} {b g c B : Nat} {ws : List Int} (h : MemAt w b g c ws) (hc : Below B w w') (hb : b < B) (hg : g < B) : MemAt w' b g c ws := by
  obtain ⟨sp, hr⟩ := h.row
  exact ⟨(hc.block b hb).trans h.hd, ⟨sp, (hc.block g hg).trans hr⟩, h.lo, h.hi, h.cap, h.capm, h.wf⟩
theorem do_set {w W1 W' : World} {b g c : Nat} {ws : List Int} {k : Int} {j : Nat} {bf af : Int} (h : MemAt w b g c ws) (hj : j < ws.length) (haf : 0 ≤ af ∧ af ≤ 18446744073709551615)
    (hE : doE ws k j = 0) (hW : doWs ws k j bf af = ws.set j af) (h2 : Below w.heap.size (W1.setCell ⟨g, j, none⟩ (.int .u64 af)) W') (h1 : Below w.heap.size w W1) :
    DoPost w b g c ws k j bf af (.returned (.tuple #[acc4 k j (ws.getD j 0) af, .int .i64 0])) W' := by
  unfold DoPost doK doI doB doA
  rw [hW, hE]
  refine ⟨by simp [hj], ((h.below h1).set j hj af haf).belowB h2 h.lt.1 h.lt.2, ?_⟩
  have e : Ch (fun k => w.heap.size ≤ k) (W1.setCell ⟨g, j, none⟩ (.int .u64 af)) W' := ⟨h2.os, h2.tape, h2.output, h2.size, fun k _ hf => h2.block k (by omega)⟩
  exact ((Ch.of_below h1 (fun k => k = g)).setCell (p := ⟨g, j, none⟩) (.inl rfl) _).trans e (fun k hk hk' => absurd hk' (by omega))
set_option maxRecDepth 100000 in
set_option maxHeartbeats 1000000 in
theorem do_ok (b g c : Nat) (ws : List Int) (k : Int) (j : Nat) (bf af : Int) (w : World) (h : MemAt w b g c ws) (hk : k = 1 ∨ k = 2 ∨ k = 3 ∨ k = 4) (hj : j < ws.length) (haf : 0 ≤ af ∧ af ≤ 18446744073709551615) :
    Calls Try.prog 58 #[.pointer (some ⟨b, 0, none⟩), acc4 k j bf af] w (DoPost w b g c ws k j bf af) := by
  have k1 : decide (k < 1) = false := decide_eq_false (by omega)
  have k2 : decide (4 < k) = false := decide_eq_false (by omega)
  have i1 : decide ((j : Int) < 0) = false := decide_eq_false (by omega)
  have i2 : decide ((ws.length : Int) ≤ j) = false := decide_eq_false (by omega)
  have hjI : (j : Int) < ws.length := by omega
  have hs := h.slice
  have hne := h.lt
  have hcap := h.cap
  have hcm := h.capm
  have hw := h.word hj
  have hwf := h.wfAt hj
  have hfz := h.free j
  have hbg := h.ne
  have hgb := hbg.symm
  obtain ⟨hn1, hn2⟩ := hne
  have hsc : ∀ (O1 O2 : Obj) (n : Nat), ((((w.alloc O1).alloc O2).drewN n).setCell ⟨g, j, none⟩ (.int .u64 af)).cell? ⟨g, j, none⟩ = some (.int .u64 af) := fun O1 O2 n => by
    refine World.cell?_setCell_same (u := .int .u64 (ws.getD j 0)) _ _ _ ?_
    rw [World.cell?_drewN]
    exact ((Ch.of_below (((Below.refl _ w).alloc (Nat.le_refl _) O1).alloc (by simp) O2) (fun _ => False)).cell (p := ⟨g, j, none⟩) hn2 (fun e => e)).trans hw
  have hE : Hid (doE ws k j = 0) := (show doE ws k j = 0 by unfold doE; rw [if_neg (by omega), if_neg (by omega)])
  rcases hk with rfl | rfl | rfl | rfl
  · have HW : Hid (doWs ws 1 j bf af = ws) := (show _ = _ by unfold doWs; rw [if_neg (by omega)])
    have hP : ∀ w', Below w.heap.size w w' → DoPost w b g c ws 1 j bf af (.returned (.tuple #[acc4 1 j (ws.getD j 0) (ws.getD j 0), .int .i64 0])) w' := fun w' hb => by
      unfold DoPost doK doI doB doA
      rw [HW.out, hE.out]
      exact ⟨by simp, h.below hb, Ch.of_below hb _⟩
    go_enter Try.func58, Try.ntmps58
    go_wp2_with (first | (go_at_call 76; refine (mzero_ok b g c ws _ (h.below (by (repeat' (first | (with_reducible exact Below.refl _ _) | (with_reducible assumption) | (with_reducible refine Below.alloc ?_ ?_ _) | (with_reducible refine Below.drew ?_) | (with_reducible refine below_drewN ?_ _) | (with_reducible refine Below.setCell ?_ ?_ _) | (with_reducible refine Below.trans ?_ (Below.mono (by assumption) ?_)) | (first | go_size | (with_reducible exact Below.size (by assumption)) | (with_reducible exact Nat.le_trans (Below.size (by assumption)) (Below.size (by assumption))) | (refine Nat.le_trans (Below.size (by assumption)) ?_; go_size))))))).mono ?_; rintro e w' ⟨rfl, rfl⟩) | ((with_reducible refine still_tail (id := 9) 9 (by kernel_rfl) (by kernel_rfl) ?_); simp only [List.take_succ_cons, List.take_zero, List.drop_succ_cons, List.drop_zero]; (repeat still_step); refine wpStill_nil ?_) | ((with_reducible refine still_tail (id := 10) 14 (by kernel_rfl) (by kernel_rfl) ?_); simp only [List.take_succ_cons, List.take_zero, List.drop_succ_cons, List.drop_zero]; (repeat still_step); refine wpStill_nil ?_) | ((with_reducible refine at_region 5 rfl ?_); go_quiet (fail)) | ((with_reducible refine at_region 7 rfl ?_); go_quiet (fail)))
    refine bodyPost_ret (v := .tuple #[acc4 1 j (ws.getD j 0) (ws.getD j 0), .int .i64 0]) (by simp [results, go_sem, List.getElem?_eq_getElem hj]) rfl ?_
    exact hP _ (by (repeat' (first | (with_reducible exact Below.refl _ _) | (with_reducible assumption) | (with_reducible refine Below.alloc ?_ ?_ _) | (with_reducible refine Below.drew ?_) | (with_reducible refine below_drewN ?_ _) | (with_reducible refine Below.setCell ?_ ?_ _) | (with_reducible refine Below.trans ?_ (Below.mono (by assumption) ?_)) | (first | go_size | (with_reducible exact Below.size (by assumption)) | (with_reducible exact Nat.le_trans (Below.size (by assumption)) (Below.size (by assumption))) | (refine Nat.le_trans (Below.size (by assumption)) ?_; go_size)))))
  · have HW : Hid (doWs ws 2 j bf af = ws.set j af) := (show _ = _ by unfold doWs; rw [if_pos (by omega)]; rfl)
    go_enter Try.func58, Try.ntmps58
    go_wp2_with (first | (go_at_call 76; refine (mzero_ok b g c ws _ (h.below (by (repeat' (first | (with_reducible exact Below.refl _ _) | (with_reducible assumption) | (with_reducible refine Below.alloc ?_ ?_ _) | (with_reducible refine Below.drew ?_) | (with_reducible refine below_drewN ?_ _) | (with_reducible refine Below.setCell ?_ ?_ _) | (with_reducible refine Below.trans ?_ (Below.mono (by assumption) ?_)) | (first | go_size | (with_reducible exact Below.size (by assumption)) | (with_reducible exact Nat.le_trans (Below.size (by assumption)) (Below.size (by assumption))) | (refine Nat.le_trans (Below.size (by assumption)) ?_; go_size))))))).mono ?_; rintro e w' ⟨rfl, rfl⟩) | ((with_reducible refine still_tail (id := 9) 9 (by kernel_rfl) (by kernel_rfl) ?_); simp only [List.take_succ_cons, List.take_zero, List.drop_succ_cons, List.drop_zero]; (repeat still_step); refine wpStill_nil ?_) | ((with_reducible refine still_tail (id := 10) 14 (by kernel_rfl) (by kernel_rfl) ?_); simp only [List.take_succ_cons, List.take_zero, List.drop_succ_cons, List.drop_zero]; (repeat still_step); refine wpStill_nil ?_) | ((with_reducible refine at_region 5 rfl ?_); go_quiet (fail)) | ((with_reducible refine at_region 7 rfl ?_); go_quiet (fail)))
    refine bodyPost_ret (v := .tuple #[acc4 2 j (ws.getD j 0) af, .int .i64 0]) (by simp [results, go_sem, List.getElem?_eq_getElem hj]) rfl ?_
    exact do_set h hj haf hE.out HW.out (by (repeat' (first | (with_reducible exact Below.refl _ _) | (with_reducible assumption) | (with_reducible refine Below.alloc ?_ ?_ _) | (with_reducible refine Below.drew ?_) | (with_reducible refine below_drewN ?_ _) | (with_reducible refine Below.setCell ?_ ?_ _) | (with_reducible refine Below.trans ?_ (Below.mono (by assumption) ?_)) | (first | go_size | (with_reducible exact Below.size (by assumption)) | (with_reducible exact Nat.le_trans (Below.size (by assumption)) (Below.size (by assumption))) | (refine Nat.le_trans (Below.size (by assumption)) ?_; go_size))))) (by (repeat' (first | (with_reducible exact Below.refl _ _) | (with_reducible assumption) | (with_reducible refine Below.alloc ?_ ?_ _) | (with_reducible refine Below.drew ?_) | (with_reducible refine below_drewN ?_ _) | (with_reducible refine Below.setCell ?_ ?_ _) | (with_reducible refine Below.trans ?_ (Below.mono (by assumption) ?_)) | (first | go_size | (with_reducible exact Below.size (by assumption)) | (with_reducible exact Nat.le_trans (Below.size (by assumption)) (Below.size (by assumption))) | (refine Nat.le_trans (Below.size (by assumption)) ?_; go_size)))))
  · have hg : ws.getD j 0 = ws[j] := by simp [List.getD, List.getElem?_eq_getElem hj]
    by_cases hh : ws.getD j 0 = bf
    · have HW : Hid (doWs ws 3 j bf af = ws.set j af) := (show _ = _ by unfold doWs; rw [if_pos ⟨by omega, by omega, by omega, by omega, .inr (.inr ⟨rfl, hh⟩)⟩]; rfl)
      have k4 : (ws[j] == bf) = true := by rw [beq_iff_eq, ← hg]; exact hh
      go_enter Try.func58, Try.ntmps58
      go_wp2_with (first | (go_at_call 76; refine (mzero_ok b g c ws _ (h.below (by (repeat' (first | (with_reducible exact Below.refl _ _) | (with_reducible assumption) | (with_reducible refine Below.alloc ?_ ?_ _) | (with_reducible refine Below.drew ?_) | (with_reducible refine below_drewN ?_ _) | (with_reducible refine Below.setCell ?_ ?_ _) | (with_reducible refine Below.trans ?_ (Below.mono (by assumption) ?_)) | (first | go_size | (with_reducible exact Below.size (by assumption)) | (with_reducible exact Nat.le_trans (Below.size (by assumption)) (Below.size (by assumption))) | (refine Nat.le_trans (Below.size (by assumption)) ?_; go_size))))))).mono ?_; rintro e w' ⟨rfl, rfl⟩) | ((with_reducible refine still_tail (id := 9) 9 (by kernel_rfl) (by kernel_rfl) ?_); simp only [List.take_succ_cons, List.take_zero, List.drop_succ_cons, List.drop_zero]; (repeat still_step); refine wpStill_nil ?_) | ((with_reducible refine still_tail (id := 10) 14 (by kernel_rfl) (by kernel_rfl) ?_); simp only [List.take_succ_cons, List.take_zero, List.drop_succ_cons, List.drop_zero]; (repeat still_step); refine wpStill_nil ?_) | ((with_reducible refine at_region 5 rfl ?_); go_quiet (fail)) | ((with_reducible refine at_region 7 rfl ?_); go_quiet (fail)))
      refine bodyPost_ret (v := .tuple #[acc4 3 j (ws.getD j 0) af, .int .i64 0]) (by simp [results, go_sem, List.getElem?_eq_getElem hj]) rfl ?_
      exact do_set h hj haf hE.out HW.out (by (repeat' (first | (with_reducible exact Below.refl _ _) | (with_reducible assumption) | (with_reducible refine Below.alloc ?_ ?_ _) | (with_reducible refine Below.drew ?_) | (with_reducible refine below_drewN ?_ _) | (with_reducible refine Below.setCell ?_ ?_ _) | (with_reducible refine Below.trans ?_ (Below.mono (by assumption) ?_)) | (first | go_size | (with_reducible exact Below.size (by assumption)) | (with_reducible exact Nat.le_trans (Below.size (by assumption)) (Below.size (by assumption))) | (refine Nat.le_trans (Below.size (by assumption)) ?_; go_size))))) (by (repeat' (first | (with_reducible exact Below.refl _ _) | (with_reducible assumption) | (with_reducible refine Below.alloc ?_ ?_ _) | (with_reducible refine Below.drew ?_) | (with_reducible refine below_drewN ?_ _) | (with_reducible refine Below.setCell ?_ ?_ _) | (with_reducible refine Below.trans ?_ (Below.mono (by assumption) ?_)) | (first | go_size | (with_reducible exact Below.size (by assumption)) | (with_reducible exact Nat.le_trans (Below.size (by assumption)) (Below.size (by assumption))) | (refine Nat.le_trans (Below.size (by assumption)) ?_; go_size)))))
    · have HW : Hid (doWs ws 3 j bf af = ws) := (show _ = _ by unfold doWs; rw [if_neg (by rintro ⟨_, _, _, _, h' | h' | h'⟩ <;> first | omega | exact hh h'.2)])
      have hP : ∀ w', Below w.heap.size w w' → DoPost w b g c ws 3 j bf af (.returned (.tuple #[acc4 3 j (ws.getD j 0) (ws.getD j 0), .int .i64 0])) w' := fun w' hb => by
        unfold DoPost doK doI doB doA
        rw [HW.out, hE.out]
        exact ⟨by simp, h.below hb, Ch.of_below hb _⟩
      have k4 : (ws[j] == bf) = false := by rw [beq_eq_false_iff_ne, ← hg]; exact hh
      go_enter Try.func58, Try.ntmps58
      go_wp2_with (first | (go_at_call 76; refine (mzero_ok b g c ws _ (h.below (by (repeat' (first | (with_reducible exact Below.refl _ _) | (with_reducible assumption) | (with_reducible refine Below.alloc ?_ ?_ _) | (with_reducible refine Below.drew ?_) | (with_reducible refine below_drewN ?_ _) | (with_reducible refine Below.setCell ?_ ?_ _) | (with_reducible refine Below.trans ?_ (Below.mono (by assumption) ?_)) | (first | go_size | (with_reducible exact Below.size (by assumption)) | (with_reducible exact Nat.le_trans (Below.size (by assumption)) (Below.size (by assumption))) | (refine Nat.le_trans (Below.size (by assumption)) ?_; go_size))))))).mono ?_; rintro e w' ⟨rfl, rfl⟩) | ((with_reducible refine still_tail (id := 9) 9 (by kernel_rfl) (by kernel_rfl) ?_); simp only [List.take_succ_cons, List.take_zero, List.drop_succ_cons, List.drop_zero]; (repeat still_step); refine wpStill_nil ?_) | ((with_reducible refine still_tail (id := 10) 14 (by kernel_rfl) (by kernel_rfl) ?_); simp only [List.take_succ_cons, List.take_zero, List.drop_succ_cons, List.drop_zero]; (repeat still_step); refine wpStill_nil ?_) | ((with_reducible refine at_region 5 rfl ?_); go_quiet (fail)) | ((with_reducible refine at_region 7 rfl ?_); go_quiet (fail)))
      refine bodyPost_ret (v := .tuple #[acc4 3 j (ws.getD j 0) (ws.getD j 0), .int .i64 0]) (by simp [results, go_sem, List.getElem?_eq_getElem hj]) rfl ?_
      exact hP _ (by (repeat' (first | (with_reducible exact Below.refl _ _) | (with_reducible assumption) | (with_reducible refine Below.alloc ?_ ?_ _) | (with_reducible refine Below.drew ?_) | (with_reducible refine below_drewN ?_ _) | (with_reducible refine Below.setCell ?_ ?_ _) | (with_reducible refine Below.trans ?_ (Below.mono (by assumption) ?_)) | (first | go_size | (with_reducible exact Below.size (by assumption)) | (with_reducible exact Nat.le_trans (Below.size (by assumption)) (Below.size (by assumption))) | (refine Nat.le_trans (Below.size (by assumption)) ?_; go_size)))))
  · have HW : Hid (doWs ws 4 j bf af = ws.set j af) := (show _ = _ by unfold doWs; rw [if_pos (by omega)]; rfl)
    go_enter Try.func58, Try.ntmps58
    go_wp2_with (first | (go_at_call 76; refine (mzero_ok b g c ws _ (h.below (by (repeat' (first | (with_reducible exact Below.refl _ _) | (with_reducible assumption) | (with_reducible refine Below.alloc ?_ ?_ _) | (with_reducible refine Below.drew ?_) | (with_reducible refine below_drewN ?_ _) | (with_reducible refine Below.setCell ?_ ?_ _) | (with_reducible refine Below.trans ?_ (Below.mono (by assumption) ?_)) | (first | go_size | (with_reducible exact Below.size (by assumption)) | (with_reducible exact Nat.le_trans (Below.size (by assumption)) (Below.size (by assumption))) | (refine Nat.le_trans (Below.size (by assumption)) ?_; go_size))))))).mono ?_; rintro e w' ⟨rfl, rfl⟩) | ((with_reducible refine still_tail (id := 9) 9 (by kernel_rfl) (by kernel_rfl) ?_); simp only [List.take_succ_cons, List.take_zero, List.drop_succ_cons, List.drop_zero]; (repeat still_step); refine wpStill_nil ?_) | ((with_reducible refine still_tail (id := 10) 14 (by kernel_rfl) (by kernel_rfl) ?_); simp only [List.take_succ_cons, List.take_zero, List.drop_succ_cons, List.drop_zero]; (repeat still_step); refine wpStill_nil ?_) | ((with_reducible refine at_region 5 rfl ?_); go_quiet (fail)) | ((with_reducible refine at_region 7 rfl ?_); go_quiet (fail)))
    refine bodyPost_ret (v := .tuple #[acc4 4 j (ws.getD j 0) af, .int .i64 0]) (by simp [results, go_sem, List.getElem?_eq_getElem hj]) rfl ?_
    exact do_set h hj haf hE.out HW.out (by (repeat' (first | (with_reducible exact Below.refl _ _) | (with_reducible assumption) | (with_reducible refine Below.alloc ?_ ?_ _) | (with_reducible refine Below.drew ?_) | (with_reducible refine below_drewN ?_ _) | (with_reducible refine Below.setCell ?_ ?_ _) | (with_reducible refine Below.trans ?_ (Below.mono (by assumption) ?_)) | (first | go_size | (with_reducible exact Below.size (by assumption)) | (with_reducible exact Nat.le_trans (Below.size (by assumption)) (Below.size (by assumption))) | (refine Nat.le_trans (Below.size (by assumption)) ?_; go_size))))) (by (repeat' (first | (with_reducible exact Below.refl _ _) | (with_reducible assumption) | (with_reducible refine Below.alloc ?_ ?_ _) | (with_reducible refine Below.drew ?_) | (with_reducible refine below_drewN ?_ _) | (with_reducible refine Below.setCell ?_ ?_ _) | (with_reducible refine Below.trans ?_ (Below.mono (by assumption) ?_)) | (first | go_size | (with_reducible exact Below.size (by assumption)) | (with_reducible exact Nat.le_trans (Below.size (by assumption)) (Below.size (by assumption))) | (refine Nat.le_trans (Below.size (by assumption)) ?_; go_size)))))
end Go.Proofs.Ytmbofohdjdipdaa
