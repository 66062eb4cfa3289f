/-
  The examples of the chapter on queue.
-/
import Derived.Test.YtbpkedghnjiehaaK03
namespace Go.Proofs.Ytbpkedghnjiehaa
open Go.RowKit

theorem knew (n : Nat) (n' size : Int) (w : World) (e : n' = n) (ht : thrB n = true) (h1 : (n : Int) ≤ size) (h2 : size ≤ 100000) :
    Calls Try.prog 24 #[.int .i64 n', .int .i64 size] w (NewP w n size) := by subst e; exact pnew_ok n size w ht h1 h2
theorem knext (b g c : Nat) (size : Int) (picks picks' : Nat) (ag ag' : List Int) (n : Nat) (want pick : Nat) (want' pick' : Int) (w : World) (e1 : want' = want) (e2 : pick' = pick) (h : PkAt w b g c size picks ag) (hn : ag.length = n) (hm : n ≤ 19) (hp : picks ≤ 1000000) (w1 : want < n)
    (hpk : (urgB ag n size = true ∧ pick < n ∧ rank ag n pick = 0) ∨ (urgB ag n size = false ∧ want = pick)) (hag : (ag.map (· + 1)).set pick 0 = ag') (hpi : picks + 1 = picks') :
    Calls Try.prog 31 #[.pointer (some ⟨b, 0, none⟩), .int .i64 want', .int .i64 pick', .int .i64 0] w fun e w' => e = .returned (.bool true) ∧ (PkAt w' b g c size picks' ag' ∧ Ch (fun j => j = b ∨ j = g) w w') := by
  subst e1 e2 hpi
  exact lnext_ok b g c size picks ag ag' n want pick w h hn hm hp w1 hpk hag
theorem kage (b g c : Nat) (size : Int) (picks : Nat) (ag : List Int) (t : Nat) (t' v : Int) (w : World) (e : t' = t) (h : PkAt w b g c size picks ag) (ht : t < ag.length) (hv : ag.getD t 0 = v) :
    Calls Try.prog 26 #[.pointer (some ⟨b, 0, none⟩), .int .i64 t'] w fun e w' => e = .returned (.int .i64 v) ∧ w = w' := by subst e hv; exact page_ok b g c size picks ag t w h ht
theorem kpicks (b g c : Nat) (size : Int) (picks : Nat) (v : Int) (ag : List Int) (w : World) (h : PkAt w b g c size picks ag) (hv : (picks : Int) = v) :
    Calls Try.prog 25 #[.pointer (some ⟨b, 0, none⟩)] w fun e w' => e = .returned (.int .i64 v) ∧ w = w' := by subst hv; exact ppicks_ok b g c size picks ag w h
theorem kround (n' : Int) (m : Nat) (m' : Int) (xs : List Int) (A : Option Addr) (k c : Nat) (w : World) (e : m' = m) (ht : thrB n' = true) (hm : m ≤ 1000) (hx : roundL n' m = xs) (hy : Rd (fun _ => True) w A (ints xs)) (hl : xs.length = k) (hk : k ≤ 1000) (hc : k ≤ c) :
    Calls Try.prog 12 #[.int .i64 n', .int .i64 m', .slice A k c, .int .i64 0] w fun e w' => e = .returned (.bool true) ∧ Below w.heap.size w w' := by
  subst e hx
  exact lround_of n' m 0 _ A k c w (round_ok n' m w ht (by omega)) hy hl (by omega) hc
theorem kfrom (n' : Int) (bs xs : List Int) (A B : Option Addr) (k c i d : Nat) (w : World) (ht : thrB n' = true) (hb : Rd (fun _ => True) w B (u8s bs)) (hbl : bs.length = i) (hi : i ≤ 1000) (hwf : ∀ x ∈ bs, 0 ≤ x ∧ x ≤ 255) (hx : fromL n' bs = xs) (hy : Rd (fun _ => True) w A (ints xs)) (hl : xs.length = k) (hk : k ≤ 1000) (hc : k ≤ c) :
    Calls Try.prog 13 #[.slice B i d, .int .i64 n', .slice A k c, .int .i64 0] w fun e w' => e = .returned (.bool true) ∧ Below w.heap.size w w' := by
  subst hx
  exact lfrom_of n' 0 _ A B k c i d w (from_ok B bs i d n' w hb hbl hwf ht (by omega)) hy hl (by omega) hc
theorem kcounts (n : Nat) (n' : Int) (ls xs : List Int) (A B : Option Addr) (k c i d : Nat) (w : World) (e : n' = n) (ht : thrB n = true) (hb : Rd (fun _ => True) w B (ints ls)) (hbl : ls.length = i) (hi : i ≤ 1000) (ha : ls.all (inB n) = true) (hx : cntL ls n = xs) (hy : Rd (fun _ => True) w A (ints xs)) (hl : xs.length = k) (hk : k ≤ 1000) (hc : k ≤ c) :
    Calls Try.prog 17 #[.slice B i d, .int .i64 n', .slice A k c, .int .i64 0] w fun e w' => e = .returned (.bool true) ∧ Below w.heap.size w w' := by
  subst e hx
  exact lcounts_of n 0 _ A B k c i d w (counts_ok B ls i d n w hb hbl ht (by omega) ha) hy hl (by omega) hc
theorem kwindow' (A : Option Addr) (xs : List Int) (k c n : Nat) (n' v' : Int) (v : Nat) (w : World) (e1 : n' = n) (e2 : v' = v) (hr : Rd (fun _ => True) w A (ints xs)) (hl : xs.length = k) (ht : thrB n = true) (hn : k ≤ 1000) (ha : xs.all (inB n) = true) (hv : windowI xs n = v) :
    Calls Try.prog 18 #[.slice A k c, .int .i64 n', .int .i64 v', .int .i64 0] w fun e w' => e = .returned (.bool true) ∧ Below w.heap.size w w' := by
  subst e1 e2
  exact kwindow A xs k c n v w hr hl ht hn ha hv
theorem kfair' (A : Option Addr) (xs : List Int) (k c n : Nat) (n' s : Int) (v : Bool) (w : World) (e1 : n' = n) (hr : Rd (fun _ => True) w A (ints xs)) (hl : xs.length = k) (ht : thrB n = true) (hn : k ≤ 1000) (ha : xs.all (inB n) = true) (hs : 1 ≤ s) (hv : decide ((windowI xs n : Int) ≤ s) = v) :
    Calls Try.prog 19 #[.slice A k c, .int .i64 n', .int .i64 s, .bool v, .int .i64 0] w fun e w' => e = .returned (.bool true) ∧ Below w.heap.size w w' := by
  subst e1
  exact kfair A xs k c n s v w hr hl ht hn ha hs hv
theorem rd_new8 (w : World) (xs : List Int) (o : Obj) : Rd (fun _ => True) ((w.alloc (.cells (u8s xs).toArray 5)).alloc o) (some ⟨w.heap.size, 0, none⟩) (u8s xs) :=
  Rd.keep (Rd.of_blk (Blk.new w 5 (u8s xs)) (List.prefix_refl _) trivial) ((Ch.refl (fun _ => False) _).alloc o) (fun _ _ _ e => e)
theorem rd_newA (w : World) (xs : List Int) (o : Obj) : Rd (fun _ => True) ((w.alloc (.cells (ints xs).toArray 3)).alloc o) (some ⟨w.heap.size, 0, none⟩) (ints xs) :=
  Rd.keep (Rd.of_blk (Blk.new w 3 (ints xs)) (List.prefix_refl _) trivial) ((Ch.refl (fun _ => False) _).alloc o) (fun _ _ _ e => e)
theorem rd_newB (w : World) (xs : List Int) (o : Obj) : Rd (fun _ => True) ((w.alloc o).alloc (.cells (ints xs).toArray 3)) (some ⟨w.heap.size + 1, 0, none⟩) (ints xs) := by
  have := rd_new (w.alloc o) xs
  rwa [World.size_alloc] at this

set_option maxRecDepth 100000 in
set_option maxHeartbeats 4000000 in
theorem known_ok (w : World) : Calls Try.prog 10 #[] w fun e w' => e = .returned (.bool true) ∧ Below w.heap.size w w' := by
  go_enter Try.func10, Try.ntmps10
  go_wp2_with fail
  refine (kvalid _ [0, 2, 1] 3 3 3 _ true (rd_new _ _) rfl (by decide) (by decide)).mono ?_
  rintro e w1 ⟨rfl, hb⟩
  have hB1 : Below w.heap.size w w1 := by (repeat' (first | (with_reducible exact Below.refl _ _) | (with_reducible assumption) | (with_reducible refine Below.alloc ?_ ?_ _) | (with_reducible refine Below.drew ?_) | (with_reducible refine below_drewN ?_ _) | (with_reducible refine Below.setCell ?_ ?_ _) | (with_reducible refine Below.trans ?_ (Below.mono (by assumption) ?_)) | (first | go_size | (with_reducible exact Below.size (by assumption)) | (with_reducible exact Nat.le_trans (Below.size (by assumption)) (Below.size (by assumption))) | (refine Nat.le_trans (Below.size (by assumption)) ?_; go_size))))
  have hz1 := hB1.size
  clear hb
  go_wp2_with fail
  refine (kvalid _ [0, 3] 2 2 3 _ false (rd_new _ _) rfl (by decide) (by decide)).mono ?_
  rintro e w2 ⟨rfl, hb⟩
  have hB2 : Below w.heap.size w w2 := by (repeat' (first | (with_reducible exact Below.refl _ _) | (with_reducible assumption) | (with_reducible refine Below.alloc ?_ ?_ _) | (with_reducible refine Below.drew ?_) | (with_reducible refine below_drewN ?_ _) | (with_reducible refine Below.setCell ?_ ?_ _) | (with_reducible refine Below.trans ?_ (Below.mono (by assumption) ?_)) | (first | go_size | (with_reducible exact Below.size (by assumption)) | (with_reducible exact Nat.le_trans (Below.size (by assumption)) (Below.size (by assumption))) | (refine Nat.le_trans (Below.size (by assumption)) ?_; go_size))))
  have hz2 := hB2.size
  clear hb hB1 hz1
  go_wp2_with fail
  refine (kround 3 5 5 [0, 1, 2, 0, 1] _ 5 5 _ rfl (by decide) (by decide) (by decide) (rd_new _ _) rfl (by decide) (by decide)).mono ?_
  rintro e w3 ⟨rfl, hb⟩
  have hB3 : Below w.heap.size w w3 := by (repeat' (first | (with_reducible exact Below.refl _ _) | (with_reducible assumption) | (with_reducible refine Below.alloc ?_ ?_ _) | (with_reducible refine Below.drew ?_) | (with_reducible refine below_drewN ?_ _) | (with_reducible refine Below.setCell ?_ ?_ _) | (with_reducible refine Below.trans ?_ (Below.mono (by assumption) ?_)) | (first | go_size | (with_reducible exact Below.size (by assumption)) | (with_reducible exact Nat.le_trans (Below.size (by assumption)) (Below.size (by assumption))) | (refine Nat.le_trans (Below.size (by assumption)) ?_; go_size))))
  have hz3 := hB3.size
  clear hb hB2 hz2
  go_wp2_with fail
  refine (kfrom 4 [0, 4, 5, 255] [0, 0, 1, 3] _ _ 4 4 4 4 _ (by decide) (rd_new8 _ _ _) rfl (by decide) (by decide) (by decide) (rd_newB _ _ _) rfl (by decide) (by decide)).mono ?_
  rintro e w4 ⟨rfl, hb⟩
  have hB4 : Below w.heap.size w w4 := by (repeat' (first | (with_reducible exact Below.refl _ _) | (with_reducible assumption) | (with_reducible refine Below.alloc ?_ ?_ _) | (with_reducible refine Below.drew ?_) | (with_reducible refine below_drewN ?_ _) | (with_reducible refine Below.setCell ?_ ?_ _) | (with_reducible refine Below.trans ?_ (Below.mono (by assumption) ?_)) | (first | go_size | (with_reducible exact Below.size (by assumption)) | (with_reducible exact Nat.le_trans (Below.size (by assumption)) (Below.size (by assumption))) | (refine Nat.le_trans (Below.size (by assumption)) ?_; go_size))))
  have hz4 := hB4.size
  clear hb hB3 hz3
  go_wp2_with fail
  refine (kcounts 3 3 [0, 2, 0] [2, 0, 1] _ _ 3 3 3 3 _ rfl (by decide) (rd_newA _ _ _) rfl (by decide) (by decide) (by decide) (rd_newB _ _ _) rfl (by decide) (by decide)).mono ?_
  rintro e w5 ⟨rfl, hb⟩
  have hB5 : Below w.heap.size w w5 := by (repeat' (first | (with_reducible exact Below.refl _ _) | (with_reducible assumption) | (with_reducible refine Below.alloc ?_ ?_ _) | (with_reducible refine Below.drew ?_) | (with_reducible refine below_drewN ?_ _) | (with_reducible refine Below.setCell ?_ ?_ _) | (with_reducible refine Below.trans ?_ (Below.mono (by assumption) ?_)) | (first | go_size | (with_reducible exact Below.size (by assumption)) | (with_reducible exact Nat.le_trans (Below.size (by assumption)) (Below.size (by assumption))) | (refine Nat.le_trans (Below.size (by assumption)) ?_; go_size))))
  have hz5 := hB5.size
  clear hb hB4 hz4
  have hra5 := rd_newA w5 [0, 0, 1, 1, 0] (.cells (ints [0, 0]).toArray 3)
  have hrb5 := rd_newB w5 [0, 0] (.cells (ints [0, 0, 1, 1, 0]).toArray 3)
  go_wp2_with fail
  refine (kwindow' _ [0, 1, 0, 1] 4 4 2 2 2 2 _ rfl rfl (by have := rd_new ((w5.alloc (.cells (ints [0, 0, 1, 1, 0]).toArray 3)).alloc (.cells (ints [0, 0]).toArray 3)) [0, 1, 0, 1]; simp only [World.size_alloc] at this; exact this) rfl (by decide) (by decide) (by decide) (by decide)).mono ?_
  rintro e w6 ⟨rfl, hb⟩
  have hB6 : Below w.heap.size w w6 := by (repeat' (first | (with_reducible exact Below.refl _ _) | (with_reducible assumption) | (with_reducible refine Below.alloc ?_ ?_ _) | (with_reducible refine Below.drew ?_) | (with_reducible refine below_drewN ?_ _) | (with_reducible refine Below.setCell ?_ ?_ _) | (with_reducible refine Below.trans ?_ (Below.mono (by assumption) ?_)) | (first | go_size | (with_reducible exact Below.size (by assumption)) | (with_reducible exact Nat.le_trans (Below.size (by assumption)) (Below.size (by assumption))) | (refine Nat.le_trans (Below.size (by assumption)) ?_; go_size))))
  have hra6 := hra5.keep (Ch.of_below (show Below ((w5.alloc (.cells (ints [0, 0, 1, 1, 0]).toArray 3)).alloc (.cells (ints [0, 0]).toArray 3)).heap.size _ w6 from Below.trans ((Below.refl _ _).alloc (Nat.le_refl _) _) (hb.mono (by simp))) (fun _ => False)) (fun _ _ _ e => e)
  have hrb6 := hrb5.keep (Ch.of_below (show Below ((w5.alloc (.cells (ints [0, 0, 1, 1, 0]).toArray 3)).alloc (.cells (ints [0, 0]).toArray 3)).heap.size _ w6 from Below.trans ((Below.refl _ _).alloc (Nat.le_refl _) _) (hb.mono (by simp))) (fun _ => False)) (fun _ _ _ e => e)
  have hz6 := hB6.size
  clear hb hra5 hrb5 hB5 hz5
  go_wp2_with fail
  refine (kwindow' _ [0, 0, 1, 1, 0] 5 5 2 2 3 3 _ rfl rfl hra6 rfl (by decide) (by decide) (by decide) (by decide)).mono ?_
  rintro e w7 ⟨rfl, hb⟩
  have hB7 : Below w.heap.size w w7 := by (repeat' (first | (with_reducible exact Below.refl _ _) | (with_reducible assumption) | (with_reducible refine Below.alloc ?_ ?_ _) | (with_reducible refine Below.drew ?_) | (with_reducible refine below_drewN ?_ _) | (with_reducible refine Below.setCell ?_ ?_ _) | (with_reducible refine Below.trans ?_ (Below.mono (by assumption) ?_)) | (first | go_size | (with_reducible exact Below.size (by assumption)) | (with_reducible exact Nat.le_trans (Below.size (by assumption)) (Below.size (by assumption))) | (refine Nat.le_trans (Below.size (by assumption)) ?_; go_size))))
  have hra7 := hra6.keep (Ch.of_below (show Below w6.heap.size w6 w7 by (repeat' (first | (with_reducible exact Below.refl _ _) | (with_reducible assumption) | (with_reducible refine Below.alloc ?_ ?_ _) | (with_reducible refine Below.drew ?_) | (with_reducible refine below_drewN ?_ _) | (with_reducible refine Below.setCell ?_ ?_ _) | (with_reducible refine Below.trans ?_ (Below.mono (by assumption) ?_)) | (first | go_size | (with_reducible exact Below.size (by assumption)) | (with_reducible exact Nat.le_trans (Below.size (by assumption)) (Below.size (by assumption))) | (refine Nat.le_trans (Below.size (by assumption)) ?_; go_size))))) (fun _ => False)) (fun _ _ _ e => e)
  have hrb7 := hrb6.keep (Ch.of_below (show Below w6.heap.size w6 w7 by (repeat' (first | (with_reducible exact Below.refl _ _) | (with_reducible assumption) | (with_reducible refine Below.alloc ?_ ?_ _) | (with_reducible refine Below.drew ?_) | (with_reducible refine below_drewN ?_ _) | (with_reducible refine Below.setCell ?_ ?_ _) | (with_reducible refine Below.trans ?_ (Below.mono (by assumption) ?_)) | (first | go_size | (with_reducible exact Below.size (by assumption)) | (with_reducible exact Nat.le_trans (Below.size (by assumption)) (Below.size (by assumption))) | (refine Nat.le_trans (Below.size (by assumption)) ?_; go_size))))) (fun _ => False)) (fun _ _ _ e => e)
  have hz7 := hB7.size
  clear hb hra6 hrb6 hB6 hz6
  go_wp2_with fail
  refine (kwindow' _ [0, 0] 2 2 2 2 3 3 _ rfl rfl hrb7 rfl (by decide) (by decide) (by decide) (by decide)).mono ?_
  rintro e w8 ⟨rfl, hb⟩
  have hB8 : Below w.heap.size w w8 := by (repeat' (first | (with_reducible exact Below.refl _ _) | (with_reducible assumption) | (with_reducible refine Below.alloc ?_ ?_ _) | (with_reducible refine Below.drew ?_) | (with_reducible refine below_drewN ?_ _) | (with_reducible refine Below.setCell ?_ ?_ _) | (with_reducible refine Below.trans ?_ (Below.mono (by assumption) ?_)) | (first | go_size | (with_reducible exact Below.size (by assumption)) | (with_reducible exact Nat.le_trans (Below.size (by assumption)) (Below.size (by assumption))) | (refine Nat.le_trans (Below.size (by assumption)) ?_; go_size))))
  have hra8 := hra7.keep (Ch.of_below (show Below w7.heap.size w7 w8 by (repeat' (first | (with_reducible exact Below.refl _ _) | (with_reducible assumption) | (with_reducible refine Below.alloc ?_ ?_ _) | (with_reducible refine Below.drew ?_) | (with_reducible refine below_drewN ?_ _) | (with_reducible refine Below.setCell ?_ ?_ _) | (with_reducible refine Below.trans ?_ (Below.mono (by assumption) ?_)) | (first | go_size | (with_reducible exact Below.size (by assumption)) | (with_reducible exact Nat.le_trans (Below.size (by assumption)) (Below.size (by assumption))) | (refine Nat.le_trans (Below.size (by assumption)) ?_; go_size))))) (fun _ => False)) (fun _ _ _ e => e)
  have hrb8 := hrb7.keep (Ch.of_below (show Below w7.heap.size w7 w8 by (repeat' (first | (with_reducible exact Below.refl _ _) | (with_reducible assumption) | (with_reducible refine Below.alloc ?_ ?_ _) | (with_reducible refine Below.drew ?_) | (with_reducible refine below_drewN ?_ _) | (with_reducible refine Below.setCell ?_ ?_ _) | (with_reducible refine Below.trans ?_ (Below.mono (by assumption) ?_)) | (first | go_size | (with_reducible exact Below.size (by assumption)) | (with_reducible exact Nat.le_trans (Below.size (by assumption)) (Below.size (by assumption))) | (refine Nat.le_trans (Below.size (by assumption)) ?_; go_size))))) (fun _ => False)) (fun _ _ _ e => e)
  have hz8 := hB8.size
  clear hb hra7 hrb7 hB7 hz7
  go_wp2_with fail
  refine (kwindow' none [] 0 0 1 1 1 1 _ rfl rfl (Rd.nil _ _ _) rfl (by decide) (by decide) (by decide) (by decide)).mono ?_
  rintro e w9 ⟨rfl, hb⟩
  have hB9 : Below w.heap.size w w9 := by (repeat' (first | (with_reducible exact Below.refl _ _) | (with_reducible assumption) | (with_reducible refine Below.alloc ?_ ?_ _) | (with_reducible refine Below.drew ?_) | (with_reducible refine below_drewN ?_ _) | (with_reducible refine Below.setCell ?_ ?_ _) | (with_reducible refine Below.trans ?_ (Below.mono (by assumption) ?_)) | (first | go_size | (with_reducible exact Below.size (by assumption)) | (with_reducible exact Nat.le_trans (Below.size (by assumption)) (Below.size (by assumption))) | (refine Nat.le_trans (Below.size (by assumption)) ?_; go_size))))
  have hra9 := hra8.keep (Ch.of_below (show Below w8.heap.size w8 w9 by (repeat' (first | (with_reducible exact Below.refl _ _) | (with_reducible assumption) | (with_reducible refine Below.alloc ?_ ?_ _) | (with_reducible refine Below.drew ?_) | (with_reducible refine below_drewN ?_ _) | (with_reducible refine Below.setCell ?_ ?_ _) | (with_reducible refine Below.trans ?_ (Below.mono (by assumption) ?_)) | (first | go_size | (with_reducible exact Below.size (by assumption)) | (with_reducible exact Nat.le_trans (Below.size (by assumption)) (Below.size (by assumption))) | (refine Nat.le_trans (Below.size (by assumption)) ?_; go_size))))) (fun _ => False)) (fun _ _ _ e => e)
  have hrb9 := hrb8.keep (Ch.of_below (show Below w8.heap.size w8 w9 by (repeat' (first | (with_reducible exact Below.refl _ _) | (with_reducible assumption) | (with_reducible refine Below.alloc ?_ ?_ _) | (with_reducible refine Below.drew ?_) | (with_reducible refine below_drewN ?_ _) | (with_reducible refine Below.setCell ?_ ?_ _) | (with_reducible refine Below.trans ?_ (Below.mono (by assumption) ?_)) | (first | go_size | (with_reducible exact Below.size (by assumption)) | (with_reducible exact Nat.le_trans (Below.size (by assumption)) (Below.size (by assumption))) | (refine Nat.le_trans (Below.size (by assumption)) ?_; go_size))))) (fun _ => False)) (fun _ _ _ e => e)
  have hz9 := hB9.size
  clear hb hra8 hrb8 hB8 hz8
  go_wp2_with fail
  refine (kwindow' _ [0, 0] 2 2 1 1 1 1 _ rfl rfl hrb9 rfl (by decide) (by decide) (by decide) (by decide)).mono ?_
  rintro e w10 ⟨rfl, hb⟩
  have hB10 : Below w.heap.size w w10 := by (repeat' (first | (with_reducible exact Below.refl _ _) | (with_reducible assumption) | (with_reducible refine Below.alloc ?_ ?_ _) | (with_reducible refine Below.drew ?_) | (with_reducible refine below_drewN ?_ _) | (with_reducible refine Below.setCell ?_ ?_ _) | (with_reducible refine Below.trans ?_ (Below.mono (by assumption) ?_)) | (first | go_size | (with_reducible exact Below.size (by assumption)) | (with_reducible exact Nat.le_trans (Below.size (by assumption)) (Below.size (by assumption))) | (refine Nat.le_trans (Below.size (by assumption)) ?_; go_size))))
  have hra10 := hra9.keep (Ch.of_below (show Below w9.heap.size w9 w10 by (repeat' (first | (with_reducible exact Below.refl _ _) | (with_reducible assumption) | (with_reducible refine Below.alloc ?_ ?_ _) | (with_reducible refine Below.drew ?_) | (with_reducible refine below_drewN ?_ _) | (with_reducible refine Below.setCell ?_ ?_ _) | (with_reducible refine Below.trans ?_ (Below.mono (by assumption) ?_)) | (first | go_size | (with_reducible exact Below.size (by assumption)) | (with_reducible exact Nat.le_trans (Below.size (by assumption)) (Below.size (by assumption))) | (refine Nat.le_trans (Below.size (by assumption)) ?_; go_size))))) (fun _ => False)) (fun _ _ _ e => e)
  have hrb10 := hrb9.keep (Ch.of_below (show Below w9.heap.size w9 w10 by (repeat' (first | (with_reducible exact Below.refl _ _) | (with_reducible assumption) | (with_reducible refine Below.alloc ?_ ?_ _) | (with_reducible refine Below.drew ?_) | (with_reducible refine below_drewN ?_ _) | (with_reducible refine Below.setCell ?_ ?_ _) | (with_reducible refine Below.trans ?_ (Below.mono (by assumption) ?_)) | (first | go_size | (with_reducible exact Below.size (by assumption)) | (with_reducible exact Nat.le_trans (Below.size (by assumption)) (Below.size (by assumption))) | (refine Nat.le_trans (Below.size (by assumption)) ?_; go_size))))) (fun _ => False)) (fun _ _ _ e => e)
  have hz10 := hB10.size
  clear hb hra9 hrb9 hB9 hz9
  go_wp2_with fail
  refine (kfair' _ [0, 0, 1, 1, 0] 5 5 2 2 3 true _ rfl hra10 rfl (by decide) (by decide) (by decide) (by decide) (by decide)).mono ?_
  rintro e w11 ⟨rfl, hb⟩
  have hB11 : Below w.heap.size w w11 := by (repeat' (first | (with_reducible exact Below.refl _ _) | (with_reducible assumption) | (with_reducible refine Below.alloc ?_ ?_ _) | (with_reducible refine Below.drew ?_) | (with_reducible refine below_drewN ?_ _) | (with_reducible refine Below.setCell ?_ ?_ _) | (with_reducible refine Below.trans ?_ (Below.mono (by assumption) ?_)) | (first | go_size | (with_reducible exact Below.size (by assumption)) | (with_reducible exact Nat.le_trans (Below.size (by assumption)) (Below.size (by assumption))) | (refine Nat.le_trans (Below.size (by assumption)) ?_; go_size))))
  have hra11 := hra10.keep (Ch.of_below (show Below w10.heap.size w10 w11 by (repeat' (first | (with_reducible exact Below.refl _ _) | (with_reducible assumption) | (with_reducible refine Below.alloc ?_ ?_ _) | (with_reducible refine Below.drew ?_) | (with_reducible refine below_drewN ?_ _) | (with_reducible refine Below.setCell ?_ ?_ _) | (with_reducible refine Below.trans ?_ (Below.mono (by assumption) ?_)) | (first | go_size | (with_reducible exact Below.size (by assumption)) | (with_reducible exact Nat.le_trans (Below.size (by assumption)) (Below.size (by assumption))) | (refine Nat.le_trans (Below.size (by assumption)) ?_; go_size))))) (fun _ => False)) (fun _ _ _ e => e)
  have hrb11 := hrb10.keep (Ch.of_below (show Below w10.heap.size w10 w11 by (repeat' (first | (with_reducible exact Below.refl _ _) | (with_reducible assumption) | (with_reducible refine Below.alloc ?_ ?_ _) | (with_reducible refine Below.drew ?_) | (with_reducible refine below_drewN ?_ _) | (with_reducible refine Below.setCell ?_ ?_ _) | (with_reducible refine Below.trans ?_ (Below.mono (by assumption) ?_)) | (first | go_size | (with_reducible exact Below.size (by assumption)) | (with_reducible exact Nat.le_trans (Below.size (by assumption)) (Below.size (by assumption))) | (refine Nat.le_trans (Below.size (by assumption)) ?_; go_size))))) (fun _ => False)) (fun _ _ _ e => e)
  have hz11 := hB11.size
  clear hb hra10 hrb10 hB10 hz10
  go_wp2_with fail
  refine (kfair' _ [0, 0, 1, 1, 0] 5 5 2 2 2 false _ rfl hra11 rfl (by decide) (by decide) (by decide) (by decide) (by decide)).mono ?_
  rintro e w12 ⟨rfl, hb⟩
  have hB12 : Below w.heap.size w w12 := by (repeat' (first | (with_reducible exact Below.refl _ _) | (with_reducible assumption) | (with_reducible refine Below.alloc ?_ ?_ _) | (with_reducible refine Below.drew ?_) | (with_reducible refine below_drewN ?_ _) | (with_reducible refine Below.setCell ?_ ?_ _) | (with_reducible refine Below.trans ?_ (Below.mono (by assumption) ?_)) | (first | go_size | (with_reducible exact Below.size (by assumption)) | (with_reducible exact Nat.le_trans (Below.size (by assumption)) (Below.size (by assumption))) | (refine Nat.le_trans (Below.size (by assumption)) ?_; go_size))))
  have hra12 := hra11.keep (Ch.of_below (show Below w11.heap.size w11 w12 by (repeat' (first | (with_reducible exact Below.refl _ _) | (with_reducible assumption) | (with_reducible refine Below.alloc ?_ ?_ _) | (with_reducible refine Below.drew ?_) | (with_reducible refine below_drewN ?_ _) | (with_reducible refine Below.setCell ?_ ?_ _) | (with_reducible refine Below.trans ?_ (Below.mono (by assumption) ?_)) | (first | go_size | (with_reducible exact Below.size (by assumption)) | (with_reducible exact Nat.le_trans (Below.size (by assumption)) (Below.size (by assumption))) | (refine Nat.le_trans (Below.size (by assumption)) ?_; go_size))))) (fun _ => False)) (fun _ _ _ e => e)
  have hrb12 := hrb11.keep (Ch.of_below (show Below w11.heap.size w11 w12 by (repeat' (first | (with_reducible exact Below.refl _ _) | (with_reducible assumption) | (with_reducible refine Below.alloc ?_ ?_ _) | (with_reducible refine Below.drew ?_) | (with_reducible refine below_drewN ?_ _) | (with_reducible refine Below.setCell ?_ ?_ _) | (with_reducible refine Below.trans ?_ (Below.mono (by assumption) ?_)) | (first | go_size | (with_reducible exact Below.size (by assumption)) | (with_reducible exact Nat.le_trans (Below.size (by assumption)) (Below.size (by assumption))) | (refine Nat.le_trans (Below.size (by assumption)) ?_; go_size))))) (fun _ => False)) (fun _ _ _ e => e)
  have hz12 := hB12.size
  clear hb hra11 hrb11 hB11 hz11
  go_wp2_with fail
  refine (kfair' _ [0, 0] 2 2 2 2 9 true _ rfl hrb12 rfl (by decide) (by decide) (by decide) (by decide) (by decide)).mono ?_
  rintro e w13 ⟨rfl, hb⟩
  have hB13 : Below w.heap.size w w13 := by (repeat' (first | (with_reducible exact Below.refl _ _) | (with_reducible assumption) | (with_reducible refine Below.alloc ?_ ?_ _) | (with_reducible refine Below.drew ?_) | (with_reducible refine below_drewN ?_ _) | (with_reducible refine Below.setCell ?_ ?_ _) | (with_reducible refine Below.trans ?_ (Below.mono (by assumption) ?_)) | (first | go_size | (with_reducible exact Below.size (by assumption)) | (with_reducible exact Nat.le_trans (Below.size (by assumption)) (Below.size (by assumption))) | (refine Nat.le_trans (Below.size (by assumption)) ?_; go_size))))
  have hra13 := hra12.keep (Ch.of_below (show Below w12.heap.size w12 w13 by (repeat' (first | (with_reducible exact Below.refl _ _) | (with_reducible assumption) | (with_reducible refine Below.alloc ?_ ?_ _) | (with_reducible refine Below.drew ?_) | (with_reducible refine below_drewN ?_ _) | (with_reducible refine Below.setCell ?_ ?_ _) | (with_reducible refine Below.trans ?_ (Below.mono (by assumption) ?_)) | (first | go_size | (with_reducible exact Below.size (by assumption)) | (with_reducible exact Nat.le_trans (Below.size (by assumption)) (Below.size (by assumption))) | (refine Nat.le_trans (Below.size (by assumption)) ?_; go_size))))) (fun _ => False)) (fun _ _ _ e => e)
  have hrb13 := hrb12.keep (Ch.of_below (show Below w12.heap.size w12 w13 by (repeat' (first | (with_reducible exact Below.refl _ _) | (with_reducible assumption) | (with_reducible refine Below.alloc ?_ ?_ _) | (with_reducible refine Below.drew ?_) | (with_reducible refine below_drewN ?_ _) | (with_reducible refine Below.setCell ?_ ?_ _) | (with_reducible refine Below.trans ?_ (Below.mono (by assumption) ?_)) | (first | go_size | (with_reducible exact Below.size (by assumption)) | (with_reducible exact Nat.le_trans (Below.size (by assumption)) (Below.size (by assumption))) | (refine Nat.le_trans (Below.size (by assumption)) ?_; go_size))))) (fun _ => False)) (fun _ _ _ e => e)
  have hz13 := hB13.size
  clear hb hra12 hrb12 hB12 hz12
  go_wp2_with fail
  refine (lfair_of 2 0 2 false none 0 0 _ (fair_small none 0 0 2 0 _ (by decide) (by decide))).mono ?_
  rintro e w14 ⟨rfl, hb⟩
  have hB14 : Below w.heap.size w w14 := by (repeat' (first | (with_reducible exact Below.refl _ _) | (with_reducible assumption) | (with_reducible refine Below.alloc ?_ ?_ _) | (with_reducible refine Below.drew ?_) | (with_reducible refine below_drewN ?_ _) | (with_reducible refine Below.setCell ?_ ?_ _) | (with_reducible refine Below.trans ?_ (Below.mono (by assumption) ?_)) | (first | go_size | (with_reducible exact Below.size (by assumption)) | (with_reducible exact Nat.le_trans (Below.size (by assumption)) (Below.size (by assumption))) | (refine Nat.le_trans (Below.size (by assumption)) ?_; go_size))))
  have hra14 := hra13.keep (Ch.of_below (show Below w13.heap.size w13 w14 by (repeat' (first | (with_reducible exact Below.refl _ _) | (with_reducible assumption) | (with_reducible refine Below.alloc ?_ ?_ _) | (with_reducible refine Below.drew ?_) | (with_reducible refine below_drewN ?_ _) | (with_reducible refine Below.setCell ?_ ?_ _) | (with_reducible refine Below.trans ?_ (Below.mono (by assumption) ?_)) | (first | go_size | (with_reducible exact Below.size (by assumption)) | (with_reducible exact Nat.le_trans (Below.size (by assumption)) (Below.size (by assumption))) | (refine Nat.le_trans (Below.size (by assumption)) ?_; go_size))))) (fun _ => False)) (fun _ _ _ e => e)
  have hrb14 := hrb13.keep (Ch.of_below (show Below w13.heap.size w13 w14 by (repeat' (first | (with_reducible exact Below.refl _ _) | (with_reducible assumption) | (with_reducible refine Below.alloc ?_ ?_ _) | (with_reducible refine Below.drew ?_) | (with_reducible refine below_drewN ?_ _) | (with_reducible refine Below.setCell ?_ ?_ _) | (with_reducible refine Below.trans ?_ (Below.mono (by assumption) ?_)) | (first | go_size | (with_reducible exact Below.size (by assumption)) | (with_reducible exact Nat.le_trans (Below.size (by assumption)) (Below.size (by assumption))) | (refine Nat.le_trans (Below.size (by assumption)) ?_; go_size))))) (fun _ => False)) (fun _ _ _ e => e)
  have hz14 := hB14.size
  clear hb hra13 hrb13 hB13 hz13
  clear hra14 hrb14
  go_wp2_with fail
  refine (knew 2 2 3 _ rfl (by decide) (by decide) (by decide)).mono ?_
  rintro e w15 ⟨pb, pg, pc, rfl, hP15, pbW, pgW, hb⟩
  have hB15 : Below w.heap.size w w15 := by (repeat' (first | (with_reducible exact Below.refl _ _) | (with_reducible assumption) | (with_reducible refine Below.alloc ?_ ?_ _) | (with_reducible refine Below.drew ?_) | (with_reducible refine below_drewN ?_ _) | (with_reducible refine Below.setCell ?_ ?_ _) | (with_reducible refine Below.trans ?_ (Below.mono (by assumption) ?_)) | (first | go_size | (with_reducible exact Below.size (by assumption)) | (with_reducible exact Nat.le_trans (Below.size (by assumption)) (Below.size (by assumption))) | (refine Nat.le_trans (Below.size (by assumption)) ?_; go_size))))
  have hz15 := hB15.size
  clear hb hB14
  go_wp2_with fail
  refine (knext pb pg pc 3 0 1 [0, 0] [0, 1] 2 0 0 0 0 _ rfl rfl hP15 rfl (by decide) (by decide) (by decide) (.inr ⟨by decide, rfl⟩) rfl rfl).mono ?_
  rintro e w16 ⟨rfl, hP16, hC⟩
  have hB16 : Below w.heap.size w w16 := hB15.trans (hC.below (fun j _ e => by omega) hB15.size)
  have hz16 := hB16.size
  clear hC hP15 hB15 hz15
  go_wp2_with fail
  refine (knext pb pg pc 3 1 2 [0, 1] [0, 2] 2 0 0 0 0 _ rfl rfl hP16 rfl (by decide) (by decide) (by decide) (.inr ⟨by decide, rfl⟩) rfl rfl).mono ?_
  rintro e w17 ⟨rfl, hP17, hC⟩
  have hB17 : Below w.heap.size w w17 := hB16.trans (hC.below (fun j _ e => by omega) hB16.size)
  have hz17 := hB17.size
  clear hC hP16 hB16 hz16
  go_wp2_with fail
  refine (knext pb pg pc 3 2 3 [0, 2] [1, 0] 2 0 1 0 1 _ rfl rfl hP17 rfl (by decide) (by decide) (by decide) (.inl ⟨by decide, by decide, by decide⟩) rfl rfl).mono ?_
  rintro e w18 ⟨rfl, hP18, hC⟩
  have hB18 : Below w.heap.size w w18 := hB17.trans (hC.below (fun j _ e => by omega) hB17.size)
  have hz18 := hB18.size
  clear hC hP17 hB17 hz17
  go_wp2_with fail
  refine (kage pb pg pc 3 3 [1, 0] 0 0 1 _ rfl hP18 (by decide) rfl).mono ?_
  rintro e w' ⟨rfl, rfl⟩
  go_wp2_with fail
  refine (kage pb pg pc 3 3 [1, 0] 1 1 0 _ rfl hP18 (by decide) rfl).mono ?_
  rintro e w' ⟨rfl, rfl⟩
  go_wp2_with fail
  refine (knext pb pg pc 3 3 4 [1, 0] [2, 0] 2 1 1 1 1 _ rfl rfl hP18 rfl (by decide) (by decide) (by decide) (.inr ⟨by decide, rfl⟩) rfl rfl).mono ?_
  rintro e w19 ⟨rfl, hP19, hC⟩
  have hB19 : Below w.heap.size w w19 := hB18.trans (hC.below (fun j _ e => by omega) hB18.size)
  have hz19 := hB19.size
  clear hC hP18 hB18 hz18
  go_wp2_with fail
  refine (kpicks pb pg pc 3 4 4 [2, 0] _ hP19 rfl).mono ?_
  rintro e w' ⟨rfl, rfl⟩
  clear hP19
  go_wp2_with fail
  refine (knew 3 3 3 _ rfl (by decide) (by decide) (by decide)).mono ?_
  rintro e w20 ⟨qb, qg, qc, rfl, hP20, qbW, qgW, hb⟩
  have hB20 : Below w.heap.size w w20 := by (repeat' (first | (with_reducible exact Below.refl _ _) | (with_reducible assumption) | (with_reducible refine Below.alloc ?_ ?_ _) | (with_reducible refine Below.drew ?_) | (with_reducible refine below_drewN ?_ _) | (with_reducible refine Below.setCell ?_ ?_ _) | (with_reducible refine Below.trans ?_ (Below.mono (by assumption) ?_)) | (first | go_size | (with_reducible exact Below.size (by assumption)) | (with_reducible exact Nat.le_trans (Below.size (by assumption)) (Below.size (by assumption))) | (refine Nat.le_trans (Below.size (by assumption)) ?_; go_size))))
  have hz20 := hB20.size
  clear hb hB19
  go_wp2_with fail
  refine (knext qb qg qc 3 0 1 [0, 0, 0] [0, 1, 1] 3 2 0 2 0 _ rfl rfl hP20 rfl (by decide) (by decide) (by decide) (.inl ⟨by decide, by decide, by decide⟩) rfl rfl).mono ?_
  rintro e w21 ⟨rfl, hP21, hC⟩
  have hB21 : Below w.heap.size w w21 := hB20.trans (hC.below (fun j _ e => by omega) hB20.size)
  have hz21 := hB21.size
  clear hC hP20 hB20 hz20
  go_wp2_with fail
  refine (knext qb qg qc 3 1 2 [0, 1, 1] [1, 0, 2] 3 2 1 2 1 _ rfl rfl hP21 rfl (by decide) (by decide) (by decide) (.inl ⟨by decide, by decide, by decide⟩) rfl rfl).mono ?_
  rintro e w22 ⟨rfl, hP22, hC⟩
  have hB22 : Below w.heap.size w w22 := hB21.trans (hC.below (fun j _ e => by omega) hB21.size)
  have hz22 := hB22.size
  clear hC hP21 hB21 hz21
  go_wp2_with fail
  refine (knext qb qg qc 3 2 3 [1, 0, 2] [2, 1, 0] 3 2 2 2 2 _ rfl rfl hP22 rfl (by decide) (by decide) (by decide) (.inl ⟨by decide, by decide, by decide⟩) rfl rfl).mono ?_
  rintro e w23 ⟨rfl, hP23, hC⟩
  have hB23 : Below w.heap.size w w23 := hB22.trans (hC.below (fun j _ e => by omega) hB22.size)
  have hz23 := hB23.size
  clear hC hP22 hB22 hz22
  go_wp2_with fail
  refine (knext qb qg qc 3 3 4 [2, 1, 0] [0, 2, 1] 3 2 0 2 0 _ rfl rfl hP23 rfl (by decide) (by decide) (by decide) (.inl ⟨by decide, by decide, by decide⟩) rfl rfl).mono ?_
  rintro e w24 ⟨rfl, hP24, hC⟩
  have hB24 : Below w.heap.size w w24 := hB23.trans (hC.below (fun j _ e => by omega) hB23.size)
  have hz24 := hB24.size
  clear hC hP23 hB23 hz23
  go_wp2_with fail
  refine (pnew_bad 2 1 _ (.inr (.inl (by decide)))).mono ?_
  rintro e w' ⟨rfl, rfl⟩
  go_wp2_with fail
  go_ret
  exact ⟨rfl, hB24⟩
end Go.Proofs.Ytbpkedghnjiehaa
