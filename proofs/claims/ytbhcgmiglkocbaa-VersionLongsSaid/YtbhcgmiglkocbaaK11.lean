/-
  The examples of the chapter on version: known returns true in any world.
-/
import Derived.Test.YtbhcgmiglkocbaaVer6
namespace Go.Proofs.Ytbhcgmiglkocbaa
open Go.RowKit

theorem kwrite (v f : Int) (A : Option Addr) (xs : List Int) (k c : Nat) (w : World) (h : OkV v f xs.length) (hr : Rd (fun _ => True) w A (u64s xs)) (hl : xs.length = k) (hA : A = none → c = 0) (hwf : ∀ x ∈ xs, 0 ≤ x ∧ x ≤ 18446744073709551615) :
    Calls Try.prog 22 #[.int .i64 v, .int .i64 f, .slice A k c] w fun e w' => ∃ r B A2 c2, e = .returned (.pointer (some ⟨r, 0, none⟩)) ∧ WrAt B w' r v f A2 c2 xs ⟨0, 0, false⟩ ∧ w.heap.size ≤ B ∧ B ≤ r ∧ Below w.heap.size w w' :=
  (lwrite_ok v f A xs k c w h hr hl hA hwf).mono fun _ _ ⟨r, A2, c2, h1, h2, h3, h4⟩ => ⟨r, w.heap.size, A2, c2, h1, h2, Nat.le_refl _, h3, h4⟩
theorem kread (v f n tries : Int) (w : World) (h : OkV v f n) (ht : 1 ≤ tries) (ht2 : tries ≤ 9223372036854775807) :
    Calls Try.prog 24 #[.int .i64 v, .int .i64 f, .int .i64 n, .int .i64 tries] w fun e w' => ∃ r B, e = .returned (.pointer (some ⟨r, 0, none⟩)) ∧ RdAt B w' r v f n (rs0 tries) (.slice none 0 0) ∧ w.heap.size ≤ B ∧ B ≤ r ∧ Below w.heap.size w w' :=
  (lread_ok v f n tries w h ht ht2).mono fun _ _ ⟨r, h1, h2, h3, h4⟩ => ⟨r, w.heap.size, h1, h2, Nat.le_refl _, h3, h4⟩
theorem rd_new (w : World) (xs : List Int) : Rd (fun _ => True) (w.alloc (.cells (u64s xs).toArray 22)) (some ⟨w.heap.size, 0, none⟩) (u64s xs) := Rd.of_blk (Blk.new _ _ _) (List.prefix_refl _) trivial
theorem kpair {W w w1 w2 : World} {b g c : Nat} {ws : List Int} {r B cl r2 B2 : Nat} {v f v2 f2 n tries : Int} {A : Option Addr} {xs : List Int} (hV : KV W w b g c ws) (hb : Below w.heap.size w w1) (hw : WrAt B w1 r v f A cl xs ⟨0, 0, false⟩) (h1 : w.heap.size ≤ B) (h2 : B ≤ r)
    (hr : RdAt B2 w2 r2 v2 f2 n (rs0 tries) (.slice none 0 0)) (h3 : w1.heap.size ≤ B2) (h4 : B2 ≤ r2) (hb2 : Below w1.heap.size w1 w2) : KP W b g c ws r B v f A cl xs ⟨0, 0, false⟩ r2 B2 v2 f2 n (rs0 tries) w2 ∧ W.heap.size ≤ B ∧ W.heap.size ≤ B2 ∧ r < B2 := by
  have hl := hV.mem.lt
  have hz := hV.below.size
  have hz1 := hb.size
  have hrl := hw.hd.lt
  exact ⟨⟨_, (hV.step hb).step hb2, KW.step ⟨hw, by omega, h2⟩ hb2, ⟨hr, by omega, h4, fun e => by cases e⟩⟩, by omega, by omega, by omega⟩
theorem z8 : (u64s (List.replicate 8 0)).toArray = #[.int .u64 0, .int .u64 0, .int .u64 0, .int .u64 0, .int .u64 0, .int .u64 0, .int .u64 0, .int .u64 0] := rfl
def z8l : List Int := [0, 0, 0, 0, 0, 0, 0, 0]
theorem lsame_ok (A B : Option Addr) (xs : List Int) (n m c d : Nat) (w : World) (hx : Rd (fun _ => True) w A (u64s xs)) (hy : Rd (fun _ => True) w B (u64s xs)) (h1 : xs.length = n) (h2 : xs.length = m) (hn : n ≤ 100000) (hc : n ≤ c) (hd : m ≤ d) :
    Calls Try.prog 21 #[.slice A n c, .slice B m d] w fun e w' => e = .returned (.bool true) ∧ Below w.heap.size w w' := by
  have := rsame_any A B xs xs n m c d w hx hy h1 h2 hn (by omega) hc hd
  rw [show eqB xs xs = true by simp [eqB]] at this
  exact this.mono fun _ _ ⟨h, q, hq⟩ => ⟨h, by rw [hq]; exact below_drewN (Below.refl _ _) q⟩

set_option maxRecDepth 100000 in
set_option maxHeartbeats 8000000 in
theorem known_ok (W : World) : Calls Try.prog 8 #[] W fun e w' => e = .returned (.bool true) ∧ Below W.heap.size W w' := by
  have hmk : ∀ w, (Instr.makeSlice 23 (.int .i64 8) (.int .i64 8)).run Try.prog w = .ok (.slice (some ⟨w.heap.size, 0, none⟩) 8 8) (w.alloc (.cells #[.int .u64 0, .int .u64 0, .int .u64 0, .int .u64 0, .int .u64 0, .int .u64 0, .int .u64 0, .int .u64 0] 22)) := fun w => by rw [← z8]; exact make_u64 8 (by omega) w
  go_enter Try.func8, Try.ntmps8
  go_wp2_with fail
  refine (made_ok (some ⟨W.heap.size, 0, none⟩) z8l 8 8 _ (Rd.of_blk (Blk.new W 22 (u64s z8l)) (List.prefix_refl _) (by simp)) rfl (by omega) (by omega) (by omega) (by decide)).mono ?_
  rintro e w0 ⟨b, g, rfl, hm, hb, hg, hB⟩
  have hV : KV W w0 b g 8 z8l := ⟨hm, by simp at hb; omega, by simp at hg; omega, Below.trans (by (repeat' (first | (with_reducible exact Below.refl _ _) | (with_reducible assumption) | (with_reducible refine Below.alloc ?_ ?_ _) | (with_reducible refine Below.drew ?_) | (with_reducible refine below_drewN ?_ _) | (with_reducible refine Below.setCell ?_ ?_ _) | (with_reducible refine Below.trans ?_ (Below.mono (by assumption) ?_)) | (first | go_size | (with_reducible exact Below.size (by assumption)) | (with_reducible exact Nat.le_trans (Below.size (by assumption)) (Below.size (by assumption))) | (refine Nat.le_trans (Below.size (by assumption)) ?_; go_size))))) (hB.mono (by simp))⟩
  unfold z8l at hV
  clear hm hb hg hB hmk
  go_wp2_with fail
  refine (kwrite 0 2 _ [7, 8] 2 2 _ (by decide) (rd_new w0 [7, 8]) rfl (fun e => by cases e) (by decide)).mono ?_
  rintro e w1 ⟨ra, Ba, Aa, cla, rfl, hWr, q1, q2, hb⟩
  have hb1 : Below w0.heap.size w0 w1 := Below.trans (by (repeat' (first | (with_reducible exact Below.refl _ _) | (with_reducible assumption) | (with_reducible refine Below.alloc ?_ ?_ _) | (with_reducible refine Below.drew ?_) | (with_reducible refine below_drewN ?_ _) | (with_reducible refine Below.setCell ?_ ?_ _) | (with_reducible refine Below.trans ?_ (Below.mono (by assumption) ?_)) | (first | go_size | (with_reducible exact Below.size (by assumption)) | (with_reducible exact Nat.le_trans (Below.size (by assumption)) (Below.size (by assumption))) | (refine Nat.le_trans (Below.size (by assumption)) ?_; go_size))))) (hb.mono (by simp))
  go_wp2_with fail
  refine (kread 0 1 3 1 _ (by decide) (by decide) (by decide)).mono ?_
  rintro e w2 ⟨pa, Ca, rfl, hRr, q3, q4, hb2⟩
  obtain ⟨hP, hBWa, hCWa, hrra⟩ := kpair hV hb1 hWr (by simp at q1; omega) q2 hRr q3 q4 hb2
  clear hV hb hb1 hb2 hWr hRr q1 q2 q3 q4
  rw [show rs0 1 = ⟨false, 0, [], 1, 0, false⟩ from rfl] at hP
  go_wp2_with fail
  refine ((hP.step (by (repeat' (first | (with_reducible exact Below.refl _ _) | (with_reducible assumption) | (with_reducible refine Below.alloc ?_ ?_ _) | (with_reducible refine Below.drew ?_) | (with_reducible refine below_drewN ?_ _) | (with_reducible refine Below.setCell ?_ ?_ _) | (with_reducible refine Below.trans ?_ (Below.mono (by assumption) ?_)) | (first | go_size | (with_reducible exact Below.size (by assumption)) | (with_reducible exact Nat.le_trans (Below.size (by assumption)) (Below.size (by assumption))) | (refine Nat.le_trans (Below.size (by assumption)) ?_; go_size)))))).wends (s' := ⟨0, 5, true⟩) (ws' := [2, 0, 7, 8, 0, 0, 0, 0]) hBWa 5 5 rfl (by decide) (by decide) (by decide +kernel) (by decide +kernel) (by kernel_rfl)).mono ?_
  clear hP
  rintro e w3 ⟨rfl, hP⟩
  go_wp2_with fail
  refine ((hP.step (by (repeat' (first | (with_reducible exact Below.refl _ _) | (with_reducible assumption) | (with_reducible refine Below.alloc ?_ ?_ _) | (with_reducible refine Below.drew ?_) | (with_reducible refine below_drewN ?_ _) | (with_reducible refine Below.setCell ?_ ?_ _) | (with_reducible refine Below.trans ?_ (Below.mono (by assumption) ?_)) | (first | go_size | (with_reducible exact Below.size (by assumption)) | (with_reducible exact Nat.le_trans (Below.size (by assumption)) (Below.size (by assumption))) | (refine Nat.le_trans (Below.size (by assumption)) ?_; go_size)))))).rends (t' := ⟨true, 2, [0, 7, 8], 1, 1, true⟩) hCWa hrra 5 5 rfl (by decide) (by decide) (by decide +kernel) (by decide +kernel) (by kernel_rfl)).mono ?_
  clear hP
  rintro e w4 ⟨rfl, hP⟩
  go_wp2_with fail
  refine (hP.rwords (by decide)).mono ?_
  rintro e w5 ⟨A9, c9, rfl, k1, k2, hb⟩
  replace hP := hP.step hb
  clear hb
  go_wp2_with fail
  refine (lsame_ok A9 _ [0, 7, 8] 3 3 c9 3 _ ((k1.mono (fun _ _ _ => trivial)).keep ((Ch.refl (fun _ => False) _).alloc _) (fun _ _ _ e => e)) (rd_new w5 [0, 7, 8]) rfl rfl (by decide) k2 (by decide)).mono ?_
  rintro e w6 ⟨rfl, hb⟩
  replace hP := hP.step (show Below w5.heap.size w5 w6 from Below.trans (by (repeat' (first | (with_reducible exact Below.refl _ _) | (with_reducible assumption) | (with_reducible refine Below.alloc ?_ ?_ _) | (with_reducible refine Below.drew ?_) | (with_reducible refine below_drewN ?_ _) | (with_reducible refine Below.setCell ?_ ?_ _) | (with_reducible refine Below.trans ?_ (Below.mono (by assumption) ?_)) | (first | go_size | (with_reducible exact Below.size (by assumption)) | (with_reducible exact Nat.le_trans (Below.size (by assumption)) (Below.size (by assumption))) | (refine Nat.le_trans (Below.size (by assumption)) ?_; go_size))))) (hb.mono (by simp)))
  clear hb k1 k2
  go_wp2_with fail
  refine (hP.rversion 2 (by decide)).mono ?_
  rintro e w' ⟨rfl, rfl⟩
  replace hV := hP.kv
  clear hP
  go_wp2_with fail
  refine (kwrite 0 2 _ [1, 2] 2 2 _ (by decide) (rd_new w6 [1, 2]) rfl (fun e => by cases e) (by decide)).mono ?_
  rintro e w7 ⟨rb, Bb, Ab, clb, rfl, hWr, q1, q2, hb⟩
  have hb1 : Below w6.heap.size w6 w7 := Below.trans (by (repeat' (first | (with_reducible exact Below.refl _ _) | (with_reducible assumption) | (with_reducible refine Below.alloc ?_ ?_ _) | (with_reducible refine Below.drew ?_) | (with_reducible refine below_drewN ?_ _) | (with_reducible refine Below.setCell ?_ ?_ _) | (with_reducible refine Below.trans ?_ (Below.mono (by assumption) ?_)) | (first | go_size | (with_reducible exact Below.size (by assumption)) | (with_reducible exact Nat.le_trans (Below.size (by assumption)) (Below.size (by assumption))) | (refine Nat.le_trans (Below.size (by assumption)) ?_; go_size))))) (hb.mono (by simp))
  go_wp2_with fail
  refine (kread 0 2 2 2 _ (by decide) (by decide) (by decide)).mono ?_
  rintro e w8 ⟨pb, Cb, rfl, hRr, q3, q4, hb2⟩
  obtain ⟨hP, hBWb, hCWb, hrrb⟩ := kpair hV hb1 hWr (by simp at q1; omega) q2 hRr q3 q4 hb2
  clear hV hb hb1 hb2 hWr hRr q1 q2 q3 q4
  rw [show rs0 2 = ⟨false, 0, [], 2, 0, false⟩ from rfl] at hP
  go_wp2_with fail
  refine ((hP.step (by (repeat' (first | (with_reducible exact Below.refl _ _) | (with_reducible assumption) | (with_reducible refine Below.alloc ?_ ?_ _) | (with_reducible refine Below.drew ?_) | (with_reducible refine below_drewN ?_ _) | (with_reducible refine Below.setCell ?_ ?_ _) | (with_reducible refine Below.trans ?_ (Below.mono (by assumption) ?_)) | (first | go_size | (with_reducible exact Below.size (by assumption)) | (with_reducible exact Nat.le_trans (Below.size (by assumption)) (Below.size (by assumption))) | (refine Nat.le_trans (Below.size (by assumption)) ?_; go_size)))))).wsteps (s' := ⟨2, 2, false⟩) (ws' := [3, 0, 7, 8, 0, 0, 0, 0]) hBWb 2 2 rfl (by decide) (by decide +kernel) (by kernel_rfl)).mono ?_
  clear hP
  rintro e w9 ⟨rfl, hP⟩
  go_wp2_with fail
  refine ((hP.step (by (repeat' (first | (with_reducible exact Below.refl _ _) | (with_reducible assumption) | (with_reducible refine Below.alloc ?_ ?_ _) | (with_reducible refine Below.drew ?_) | (with_reducible refine below_drewN ?_ _) | (with_reducible refine Below.setCell ?_ ?_ _) | (with_reducible refine Below.trans ?_ (Below.mono (by assumption) ?_)) | (first | go_size | (with_reducible exact Below.size (by assumption)) | (with_reducible exact Nat.le_trans (Below.size (by assumption)) (Below.size (by assumption))) | (refine Nat.le_trans (Below.size (by assumption)) ?_; go_size)))))).rstep (t' := ⟨false, 0, [], 2, 0, false⟩) hCWb hrrb true 0 (by kernel_rfl)).mono ?_
  clear hP
  rintro e w10 ⟨rfl, hP⟩
  go_wp2_with fail
  refine ((hP.step (by (repeat' (first | (with_reducible exact Below.refl _ _) | (with_reducible assumption) | (with_reducible refine Below.alloc ?_ ?_ _) | (with_reducible refine Below.drew ?_) | (with_reducible refine below_drewN ?_ _) | (with_reducible refine Below.setCell ?_ ?_ _) | (with_reducible refine Below.trans ?_ (Below.mono (by assumption) ?_)) | (first | go_size | (with_reducible exact Below.size (by assumption)) | (with_reducible exact Nat.le_trans (Below.size (by assumption)) (Below.size (by assumption))) | (refine Nat.le_trans (Below.size (by assumption)) ?_; go_size)))))).wends (s' := ⟨2, 5, true⟩) (ws' := [4, 0, 1, 2, 0, 0, 0, 0]) hBWb 3 3 rfl (by decide) (by decide) (by decide +kernel) (by decide +kernel) (by kernel_rfl)).mono ?_
  clear hP
  rintro e w11 ⟨rfl, hP⟩
  go_wp2_with fail
  refine ((hP.step (by (repeat' (first | (with_reducible exact Below.refl _ _) | (with_reducible assumption) | (with_reducible refine Below.alloc ?_ ?_ _) | (with_reducible refine Below.drew ?_) | (with_reducible refine below_drewN ?_ _) | (with_reducible refine Below.setCell ?_ ?_ _) | (with_reducible refine Below.trans ?_ (Below.mono (by assumption) ?_)) | (first | go_size | (with_reducible exact Below.size (by assumption)) | (with_reducible exact Nat.le_trans (Below.size (by assumption)) (Below.size (by assumption))) | (refine Nat.le_trans (Below.size (by assumption)) ?_; go_size)))))).rends (t' := ⟨true, 4, [1, 2], 2, 1, true⟩) hCWb hrrb 4 4 rfl (by decide) (by decide) (by decide +kernel) (by decide +kernel) (by kernel_rfl)).mono ?_
  clear hP
  rintro e w12 ⟨rfl, hP⟩
  go_wp2_with fail
  refine (hP.rwords (by decide)).mono ?_
  rintro e w13 ⟨A9, c9, rfl, k1, k2, hb⟩
  replace hP := hP.step hb
  clear hb
  go_wp2_with fail
  refine (lsame_ok A9 _ [1, 2] 2 2 c9 2 _ ((k1.mono (fun _ _ _ => trivial)).keep ((Ch.refl (fun _ => False) _).alloc _) (fun _ _ _ e => e)) (rd_new w13 [1, 2]) rfl rfl (by decide) k2 (by decide)).mono ?_
  rintro e w14 ⟨rfl, hb⟩
  replace hP := hP.step (show Below w13.heap.size w13 w14 from Below.trans (by (repeat' (first | (with_reducible exact Below.refl _ _) | (with_reducible assumption) | (with_reducible refine Below.alloc ?_ ?_ _) | (with_reducible refine Below.drew ?_) | (with_reducible refine below_drewN ?_ _) | (with_reducible refine Below.setCell ?_ ?_ _) | (with_reducible refine Below.trans ?_ (Below.mono (by assumption) ?_)) | (first | go_size | (with_reducible exact Below.size (by assumption)) | (with_reducible exact Nat.le_trans (Below.size (by assumption)) (Below.size (by assumption))) | (refine Nat.le_trans (Below.size (by assumption)) ?_; go_size))))) (hb.mono (by simp)))
  clear hb k1 k2
  go_wp2_with fail
  refine (hP.rversion 4 (by decide)).mono ?_
  rintro e w' ⟨rfl, rfl⟩
  replace hV := hP.kv
  clear hP
  go_wp2_with fail
  refine (kwrite 0 2 _ [5, 6] 2 2 _ (by decide) (rd_new w14 [5, 6]) rfl (fun e => by cases e) (by decide)).mono ?_
  rintro e w15 ⟨rc, Bc, Ac, clc, rfl, hWr, q1, q2, hb⟩
  have hb1 : Below w14.heap.size w14 w15 := Below.trans (by (repeat' (first | (with_reducible exact Below.refl _ _) | (with_reducible assumption) | (with_reducible refine Below.alloc ?_ ?_ _) | (with_reducible refine Below.drew ?_) | (with_reducible refine below_drewN ?_ _) | (with_reducible refine Below.setCell ?_ ?_ _) | (with_reducible refine Below.trans ?_ (Below.mono (by assumption) ?_)) | (first | go_size | (with_reducible exact Below.size (by assumption)) | (with_reducible exact Nat.le_trans (Below.size (by assumption)) (Below.size (by assumption))) | (refine Nat.le_trans (Below.size (by assumption)) ?_; go_size))))) (hb.mono (by simp))
  go_wp2_with fail
  refine (kread 0 2 2 1 _ (by decide) (by decide) (by decide)).mono ?_
  rintro e w16 ⟨pc, Cc, rfl, hRr, q3, q4, hb2⟩
  obtain ⟨hP, hBWc, hCWc, hrrc⟩ := kpair hV hb1 hWr (by simp at q1; omega) q2 hRr q3 q4 hb2
  clear hV hb hb1 hb2 hWr hRr q1 q2 q3 q4
  rw [show rs0 1 = ⟨false, 0, [], 1, 0, false⟩ from rfl] at hP
  go_wp2_with fail
  refine ((hP.step (by (repeat' (first | (with_reducible exact Below.refl _ _) | (with_reducible assumption) | (with_reducible refine Below.alloc ?_ ?_ _) | (with_reducible refine Below.drew ?_) | (with_reducible refine below_drewN ?_ _) | (with_reducible refine Below.setCell ?_ ?_ _) | (with_reducible refine Below.trans ?_ (Below.mono (by assumption) ?_)) | (first | go_size | (with_reducible exact Below.size (by assumption)) | (with_reducible exact Nat.le_trans (Below.size (by assumption)) (Below.size (by assumption))) | (refine Nat.le_trans (Below.size (by assumption)) ?_; go_size)))))).rsteps (t' := ⟨true, 4, [1], 1, 0, false⟩) hCWc hrrc 2 2 rfl (by decide) (by decide +kernel) (by kernel_rfl)).mono ?_
  clear hP
  rintro e w17 ⟨rfl, hP⟩
  go_wp2_with fail
  refine ((hP.step (by (repeat' (first | (with_reducible exact Below.refl _ _) | (with_reducible assumption) | (with_reducible refine Below.alloc ?_ ?_ _) | (with_reducible refine Below.drew ?_) | (with_reducible refine below_drewN ?_ _) | (with_reducible refine Below.setCell ?_ ?_ _) | (with_reducible refine Below.trans ?_ (Below.mono (by assumption) ?_)) | (first | go_size | (with_reducible exact Below.size (by assumption)) | (with_reducible exact Nat.le_trans (Below.size (by assumption)) (Below.size (by assumption))) | (refine Nat.le_trans (Below.size (by assumption)) ?_; go_size)))))).wends (s' := ⟨4, 5, true⟩) (ws' := [6, 0, 5, 6, 0, 0, 0, 0]) hBWc 5 5 rfl (by decide) (by decide) (by decide +kernel) (by decide +kernel) (by kernel_rfl)).mono ?_
  clear hP
  rintro e w18 ⟨rfl, hP⟩
  go_wp2_with fail
  refine ((hP.step (by (repeat' (first | (with_reducible exact Below.refl _ _) | (with_reducible assumption) | (with_reducible refine Below.alloc ?_ ?_ _) | (with_reducible refine Below.drew ?_) | (with_reducible refine below_drewN ?_ _) | (with_reducible refine Below.setCell ?_ ?_ _) | (with_reducible refine Below.trans ?_ (Below.mono (by assumption) ?_)) | (first | go_size | (with_reducible exact Below.size (by assumption)) | (with_reducible exact Nat.le_trans (Below.size (by assumption)) (Below.size (by assumption))) | (refine Nat.le_trans (Below.size (by assumption)) ?_; go_size)))))).rends (t' := ⟨false, 4, [], 0, 0, true⟩) hCWc hrrc 2 2 rfl (by decide) (by decide) (by decide +kernel) (by decide +kernel) (by kernel_rfl)).mono ?_
  clear hP
  rintro e w19 ⟨rfl, hP⟩
  go_wp2_with fail
  refine (hP.rresult 0 rfl).mono ?_
  rintro e w' ⟨rfl, rfl⟩
  go_wp2_with fail
  refine (hP.rnone rfl).mono ?_
  rintro e w' ⟨rfl, rfl⟩
  replace hV := hP.kv
  clear hP
  go_wp2_with fail
  refine (even_any 0 _ (by decide)).mono ?_
  rintro e w' ⟨rfl, rfl⟩
  go_wp2_with fail
  refine (even_any 3 _ (by decide)).mono ?_
  rintro e w' ⟨rfl, rfl⟩
  go_wp2_with fail
  refine (lread_bad 0 0 1 1 _ (by decide)).mono ?_
  rintro e w' ⟨rfl, rfl⟩
  go_wp2_with fail
  refine (lread_bad 0 1 1 0 _ (by decide)).mono ?_
  rintro e w' ⟨rfl, rfl⟩
  go_wp2_with fail
  refine (lread_bad 0 1 257 1 _ (by decide)).mono ?_
  rintro e w' ⟨rfl, rfl⟩
  go_wp2_with fail
  refine (kread 0 0 0 1 _ (by decide) (by decide) (by decide)).mono ?_
  rintro e w20 ⟨r9, B9, rfl, _, _, _, hb⟩
  replace hV := hV.step hb
  clear hb
  have hst := mstore_any b g 8 [6, 0, 5, 6, 0, 0, 0, 0] 0 3 w20 hV.mem (by decide)
  rw [show doWs [6, 0, 5, 6, 0, 0, 0, 0] 2 0 0 3 = [3, 0, 5, 6, 0, 0, 0, 0] from by decide +kernel, show doE [6, 0, 5, 6, 0, 0, 0, 0] 2 0 = 0 from by decide +kernel] at hst
  go_wp2_with fail
  refine hst.mono ?_
  rintro e w21 ⟨rfl, hm, hc⟩
  replace hV : KV W w21 b g 8 [3, 0, 5, 6, 0, 0, 0, 0] := ⟨hm, hV.bW, hV.gW, hV.below.trans (hc.below (fun j _ e => by rw [e]; exact hV.gW) hV.below.size)⟩
  clear hm hc hst
  go_wp2_with fail
  refine (kwrite 0 2 _ [5] 1 1 _ (by decide) (rd_new w21 [5]) rfl (fun e => by cases e) (by decide)).mono ?_
  rintro e w22 ⟨r9, B9, A9, cl9, rfl, hWr, q1, q2, hb⟩
  have hb1 : Below w21.heap.size w21 w22 := Below.trans (by (repeat' (first | (with_reducible exact Below.refl _ _) | (with_reducible assumption) | (with_reducible refine Below.alloc ?_ ?_ _) | (with_reducible refine Below.drew ?_) | (with_reducible refine below_drewN ?_ _) | (with_reducible refine Below.setCell ?_ ?_ _) | (with_reducible refine Below.trans ?_ (Below.mono (by assumption) ?_)) | (first | go_size | (with_reducible exact Below.size (by assumption)) | (with_reducible exact Nat.le_trans (Below.size (by assumption)) (Below.size (by assumption))) | (refine Nat.le_trans (Below.size (by assumption)) ?_; go_size))))) (hb.mono (by simp))
  have hlt := hV.mem.lt
  have hgB : g < B9 := by simp at q1; omega
  have hr9 : W.heap.size ≤ r9 := by have := hV.below.size; simp at q1; omega
  replace hV := hV.step hb1
  clear hb hb1 hlt
  have hst := wstep_any B9 r9 0 2 A9 cl9 [5] ⟨0, 0, false⟩ b g 8 [3, 0, 5, 6, 0, 0, 0, 0] w22 hWr hV.mem (.inl hgB)
  rw [show wstp 0 2 [5] ⟨0, 0, false⟩ [3, 0, 5, 6, 0, 0, 0, 0] = ⟨⟨3, 0, false⟩, [3, 0, 5, 6, 0, 0, 0, 0], 8⟩ from by kernel_rfl] at hst
  go_wp2_with fail
  refine hst.mono ?_
  rintro e w23 ⟨rfl, k1, k2, k3⟩
  have hend := hV.ofW hr9 k2 k3
  have hfin := hend.below
  have hdn := wdone_any B9 r9 0 2 A9 cl9 [5] ⟨3, 0, false⟩ w23 k1
  clear hst hV hend k1 k2 k3 hWr
  go_wp2_with fail
  refine hdn.mono ?_
  rintro e w' ⟨rfl, rfl⟩
  go_wp2_with fail
  go_ret
  exact ⟨rfl, hfin⟩
end Go.Proofs.Ytbhcgmiglkocbaa
