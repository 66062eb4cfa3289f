/-
  The law's own helpers over queue, and its examples.
-/
import Derived.Test.YtbpkedghnjiehaaRQueue2
import Derived.Test.YtbpkedghnjiehaaQueue8
namespace Go.Proofs.Ytbpkedghnjiehaa
open Go.RowKit

theorem lround_of (n m no : Int) (xs : List Int) (A : Option Addr) (k c : Nat) (w : World) (hcall : Calls Try.prog 23 #[.int .i64 n, .int .i64 m] w (ListP w xs no)) (hy : Rd (fun _ => True) w A (ints xs)) (hl : xs.length = k) (hk : k ≤ 1000000) (hc : k ≤ c) :
    Calls Try.prog 12 #[.int .i64 n, .int .i64 m, .slice A k c, .int .i64 no] w fun e w' => e = .returned (.bool true) ∧ Below w.heap.size w w' := by
  have hs := fun A' c' W h1 h2 h3 => rsame_any A' A xs xs xs.length k c' c W h1 h2 rfl hl (by omega) hk h3 hc
  rw [eqB_self] at hs
  have HL := Lib.hid hl
  clear hl
  go_enter Try.func12, Try.ntmps12
  go_wp2_with fail
  refine hcall.mono ?_
  rintro e w1 ⟨A', c', rfl, h1, h2, h3, h4, hb⟩
  go_wp2_with (go_at_call 34; refine (hs A' c' _ (h1.mono (fun _ _ _ => trivial)) (hy.keep (Ch.of_below hb (fun _ => False)) (fun _ _ _ e => e)) h2).mono ?_; rintro e w2 ⟨rfl, q, rfl⟩)
  go_ret
  exact ⟨rfl, by (repeat' (first | (with_reducible exact Below.refl _ _) | (with_reducible assumption) | (with_reducible refine Below.alloc ?_ ?_ _) | (with_reducible refine Below.drew ?_) | (with_reducible refine below_drewN ?_ _) | (with_reducible refine Below.setCell ?_ ?_ _) | (with_reducible refine Below.trans ?_ (Below.mono (by assumption) ?_)) | (first | go_size | (with_reducible exact Below.size (by assumption)) | (with_reducible exact Nat.le_trans (Below.size (by assumption)) (Below.size (by assumption))) | (refine Nat.le_trans (Below.size (by assumption)) ?_; go_size))))⟩
theorem lfrom_of (n no : Int) (xs : List Int) (A B : Option Addr) (k c i d : Nat) (w : World) (hcall : Calls Try.prog 35 #[.slice B i d, .int .i64 n] w (ListP w xs no)) (hy : Rd (fun _ => True) w A (ints xs)) (hl : xs.length = k) (hk : k ≤ 1000000) (hc : k ≤ c) :
    Calls Try.prog 13 #[.slice B i d, .int .i64 n, .slice A k c, .int .i64 no] w fun e w' => e = .returned (.bool true) ∧ Below w.heap.size w w' := by
  have hs := fun A' c' W h1 h2 h3 => rsame_any A' A xs xs xs.length k c' c W h1 h2 rfl hl (by omega) hk h3 hc
  rw [eqB_self] at hs
  have HL := Lib.hid hl
  clear hl
  go_enter Try.func13, Try.ntmps13
  go_wp2_with fail
  refine hcall.mono ?_
  rintro e w1 ⟨A', c', rfl, h1, h2, h3, h4, hb⟩
  go_wp2_with (go_at_call 34; refine (hs A' c' _ (h1.mono (fun _ _ _ => trivial)) (hy.keep (Ch.of_below hb (fun _ => False)) (fun _ _ _ e => e)) h2).mono ?_; rintro e w2 ⟨rfl, q, rfl⟩)
  go_ret
  exact ⟨rfl, by (repeat' (first | (with_reducible exact Below.refl _ _) | (with_reducible assumption) | (with_reducible refine Below.alloc ?_ ?_ _) | (with_reducible refine Below.drew ?_) | (with_reducible refine below_drewN ?_ _) | (with_reducible refine Below.setCell ?_ ?_ _) | (with_reducible refine Below.trans ?_ (Below.mono (by assumption) ?_)) | (first | go_size | (with_reducible exact Below.size (by assumption)) | (with_reducible exact Nat.le_trans (Below.size (by assumption)) (Below.size (by assumption))) | (refine Nat.le_trans (Below.size (by assumption)) ?_; go_size))))⟩
theorem lcounts_of (n no : Int) (xs : List Int) (A B : Option Addr) (k c i d : Nat) (w : World) (hcall : Calls Try.prog 29 #[.slice B i d, .int .i64 n] w (ListP w xs no)) (hy : Rd (fun _ => True) w A (ints xs)) (hl : xs.length = k) (hk : k ≤ 1000000) (hc : k ≤ c) :
    Calls Try.prog 17 #[.slice B i d, .int .i64 n, .slice A k c, .int .i64 no] w fun e w' => e = .returned (.bool true) ∧ Below w.heap.size w w' := by
  have hs := fun A' c' W h1 h2 h3 => rsame_any A' A xs xs xs.length k c' c W h1 h2 rfl hl (by omega) hk h3 hc
  rw [eqB_self] at hs
  have HL := Lib.hid hl
  clear hl
  go_enter Try.func17, Try.ntmps17
  go_wp2_with fail
  refine hcall.mono ?_
  rintro e w1 ⟨A', c', rfl, h1, h2, h3, h4, hb⟩
  go_wp2_with (go_at_call 34; refine (hs A' c' _ (h1.mono (fun _ _ _ => trivial)) (hy.keep (Ch.of_below hb (fun _ => False)) (fun _ _ _ e => e)) h2).mono ?_; rintro e w2 ⟨rfl, q, rfl⟩)
  go_ret
  exact ⟨rfl, by (repeat' (first | (with_reducible exact Below.refl _ _) | (with_reducible assumption) | (with_reducible refine Below.alloc ?_ ?_ _) | (with_reducible refine Below.drew ?_) | (with_reducible refine below_drewN ?_ _) | (with_reducible refine Below.setCell ?_ ?_ _) | (with_reducible refine Below.trans ?_ (Below.mono (by assumption) ?_)) | (first | go_size | (with_reducible exact Below.size (by assumption)) | (with_reducible exact Nat.le_trans (Below.size (by assumption)) (Below.size (by assumption))) | (refine Nat.le_trans (Below.size (by assumption)) ?_; go_size))))⟩
theorem lwindow_of (n no v : Int) (B : Option Addr) (i d : Nat) (w : World) (hcall : Calls Try.prog 28 #[.slice B i d, .int .i64 n] w fun e w' => e = .returned (.tuple #[.int .i64 v, .int .i64 no]) ∧ Below w.heap.size w w') :
    Calls Try.prog 18 #[.slice B i d, .int .i64 n, .int .i64 v, .int .i64 no] w fun e w' => e = .returned (.bool true) ∧ Below w.heap.size w w' := by
  go_enter Try.func18, Try.ntmps18
  go_wp2_with fail
  refine hcall.mono ?_
  rintro e w1 ⟨rfl, hb⟩
  go_wp2
  go_ret
  exact ⟨rfl, hb⟩
theorem lfair_of (n s no : Int) (v : Bool) (B : Option Addr) (i d : Nat) (w : World) (hcall : Calls Try.prog 39 #[.slice B i d, .int .i64 n, .int .i64 s] w fun e w' => e = .returned (.tuple #[.bool v, .int .i64 no]) ∧ Below w.heap.size w w') :
    Calls Try.prog 19 #[.slice B i d, .int .i64 n, .int .i64 s, .bool v, .int .i64 no] w fun e w' => e = .returned (.bool true) ∧ Below w.heap.size w w' := by
  cases v
  all_goals
    go_enter Try.func19, Try.ntmps19
    go_wp2_with fail
    refine hcall.mono ?_
    rintro e w1 ⟨rfl, hb⟩
    go_wp2
    go_ret
    exact ⟨rfl, hb⟩
theorem lnext_of {Q : World → Prop} (p : Option Addr) (want pick no : Int) (w : World) (hcall : Calls Try.prog 27 #[.pointer p, .int .i64 want] w fun e w' => e = .returned (.tuple #[.int .i64 pick, .int .i64 no]) ∧ Q w') :
    Calls Try.prog 31 #[.pointer p, .int .i64 want, .int .i64 pick, .int .i64 no] w fun e w' => e = .returned (.bool true) ∧ Q w' := by
  go_enter Try.func31, Try.ntmps31
  go_wp2_with fail
  refine hcall.mono ?_
  rintro e w1 ⟨rfl, hb⟩
  go_wp2
  go_ret
  exact ⟨rfl, hb⟩
/-- a pick that is told -/
theorem lnext_ok (b g c : Nat) (size : Int) (picks : Nat) (ag ag' : List Int) (n : Nat) (want pick : Nat) (w : World) (h : PkAt w b g c size picks ag) (hn : ag.length = n) (hm : n ≤ 19) (hp : picks ≤ 1000000) (w1 : want < n)
    (hpk : (urgB ag n size = true ∧ pick < n ∧ rank ag n pick = 0) ∨ (urgB ag n size = false ∧ want = pick)) (hag : (ag.map (· + 1)).set pick 0 = ag') :
    Calls Try.prog 31 #[.pointer (some ⟨b, 0, none⟩), .int .i64 want, .int .i64 pick, .int .i64 0] w fun e w' => e = .returned (.bool true) ∧ (PkAt w' b g c size (picks + 1) ag' ∧ Ch (fun j => j = b ∨ j = g) w w') := by
  subst hag hn
  refine lnext_of _ _ _ _ w ((pnext_ok b g c size picks ag ag.length want w h rfl hm hp (by omega) (by omega)).mono ?_)
  rintro e w' ⟨d0, p, hF, hpp, rfl, k1, k2⟩
  have : p = pick := by
    rcases hpk with ⟨h1, h2, h3⟩ | ⟨h1, h2⟩
    · rw [if_pos h1] at hpp
      have := hF.only pick h2 h3
      omega
    · rw [if_neg (by rw [h1]; simp)] at hpp
      omega
  subst this
  exact ⟨rfl, k1, k2⟩
theorem rd_new (w : World) (xs : List Int) : Rd (fun _ => True) (w.alloc (.cells (ints xs).toArray 3)) (some ⟨w.heap.size, 0, none⟩) (ints xs) := Rd.of_blk (Blk.new _ _ _) (List.prefix_refl _) trivial
theorem kvalid (A : Option Addr) (xs : List Int) (k c : Nat) (n : Int) (w : World) (b : Bool) (hr : Rd (fun _ => True) w A (ints xs)) (hl : xs.length = k) (hn : k ≤ 1000) (hb : validB xs n = b) :
    Calls Try.prog 14 #[.slice A k c, .int .i64 n] w fun e w' => e = .returned (.bool b) ∧ Below w.heap.size w w' := by
  subst hb
  refine (valid_any A xs k c n w hr hl (by omega)).mono ?_
  rintro e w' ⟨rfl, rfl⟩
  exact ⟨rfl, by (repeat' (first | (with_reducible exact Below.refl _ _) | (with_reducible assumption) | (with_reducible refine Below.alloc ?_ ?_ _) | (with_reducible refine Below.drew ?_) | (with_reducible refine below_drewN ?_ _) | (with_reducible refine Below.setCell ?_ ?_ _) | (with_reducible refine Below.trans ?_ (Below.mono (by assumption) ?_)) | (first | go_size | (with_reducible exact Below.size (by assumption)) | (with_reducible exact Nat.le_trans (Below.size (by assumption)) (Below.size (by assumption))) | (refine Nat.le_trans (Below.size (by assumption)) ?_; go_size))))⟩
theorem kwindow (A : Option Addr) (xs : List Int) (k c n : Nat) (v : Nat) (w : World) (hr : Rd (fun _ => True) w A (ints xs)) (hl : xs.length = k) (ht : thrB n = true) (hn : k ≤ 1000) (ha : xs.all (inB n) = true) (hv : windowI xs n = v) :
    Calls Try.prog 18 #[.slice A k c, .int .i64 n, .int .i64 v, .int .i64 0] w fun e w' => e = .returned (.bool true) ∧ Below w.heap.size w w' := by
  subst hv
  exact lwindow_of _ _ _ _ _ _ w (window_ok A xs k c n w hr hl ht (by omega) ha)
theorem kfair (A : Option Addr) (xs : List Int) (k c n : Nat) (s : Int) (v : Bool) (w : World) (hr : Rd (fun _ => True) w A (ints xs)) (hl : xs.length = k) (ht : thrB n = true) (hn : k ≤ 1000) (ha : xs.all (inB n) = true) (hs : 1 ≤ s) (hv : decide ((windowI xs n : Int) ≤ s) = v) :
    Calls Try.prog 19 #[.slice A k c, .int .i64 n, .int .i64 s, .bool v, .int .i64 0] w fun e w' => e = .returned (.bool true) ∧ Below w.heap.size w w' := by
  subst hv
  exact lfair_of _ _ _ _ _ _ _ w (fair_ok A xs k c n s w hr hl ht (by omega) ha hs)
end Go.Proofs.Ytbpkedghnjiehaa
