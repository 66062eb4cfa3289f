/-
  Contracts of the law's helpers over an arena: loads, stores, swaps, compares.
-/
import Derived.Test.YtiahhpjkpdiibaaMem5
namespace Go.Proofs.Ytiahhpjkpdiibaa
open Go.RowKit

abbrev memI (b : Nat) : Value := .iface 26 (.pointer (some ⟨b, 0, none⟩))

theorem loads_any (b g c : Nat) (ws : List Int) (i want no : Int) (w : World) (h : MemAt w b g c ws) :
    Calls Try.prog 18 #[memI b, .int .i64 i, .int .u64 want, .int .i64 no] w (MPost w b g c ws (.bool (doB ws 1 i == want && doE ws 1 i == no))) := by
  cases h1 : (doB ws 1 i == want) <;> cases h2 : (doE ws 1 i == no)
  all_goals
    go_enter Try.func18, Try.ntmps18
    go_wp2_with (go_at_call 52; refine (mload_any b g c ws _ _ (h.below (by (repeat' (first | (with_reducible exact Below.refl _ _) | (with_reducible assumption) | (with_reducible refine Below.alloc ?_ ?_ _) | (with_reducible refine Below.drew ?_) | (with_reducible refine below_drewN ?_ _) | (with_reducible refine Below.setCell ?_ ?_ _) | (with_reducible refine Below.trans ?_ (Below.mono (by assumption) ?_)) | (first | go_size | (with_reducible exact Below.size (by assumption)) | (with_reducible exact Nat.le_trans (Below.size (by assumption)) (Below.size (by assumption))) | (refine Nat.le_trans (Below.size (by assumption)) ?_; go_size))))))).mono ?_; rintro e w1 ⟨rfl, hm, hc⟩)
    go_ret
    exact mpost rfl hm hc (by (repeat' (first | (with_reducible exact Below.refl _ _) | (with_reducible assumption) | (with_reducible refine Below.alloc ?_ ?_ _) | (with_reducible refine Below.drew ?_) | (with_reducible refine below_drewN ?_ _) | (with_reducible refine Below.setCell ?_ ?_ _) | (with_reducible refine Below.trans ?_ (Below.mono (by assumption) ?_)) | (first | go_size | (with_reducible exact Below.size (by assumption)) | (with_reducible exact Nat.le_trans (Below.size (by assumption)) (Below.size (by assumption))) | (refine Nat.le_trans (Below.size (by assumption)) ?_; go_size))))) (by (repeat' (first | (with_reducible exact Below.refl _ _) | (with_reducible assumption) | (with_reducible refine Below.alloc ?_ ?_ _) | (with_reducible refine Below.drew ?_) | (with_reducible refine below_drewN ?_ _) | (with_reducible refine Below.setCell ?_ ?_ _) | (with_reducible refine Below.trans ?_ (Below.mono (by assumption) ?_)) | (first | go_size | (with_reducible exact Below.size (by assumption)) | (with_reducible exact Nat.le_trans (Below.size (by assumption)) (Below.size (by assumption))) | (refine Nat.le_trans (Below.size (by assumption)) ?_; go_size)))))

theorem stores_any (b g c : Nat) (ws : List Int) (i x no : Int) (w : World) (h : MemAt w b g c ws) (hx : 0 ≤ x ∧ x ≤ 18446744073709551615) :
    Calls Try.prog 25 #[memI b, .int .i64 i, .int .u64 x, .int .i64 no] w (MPost w b g c (doWs ws 2 i 0 x) (.bool (doE ws 2 i == no))) := by
  go_enter Try.func25, Try.ntmps25
  go_wp2_with (go_at_call 31; refine (mstore_any b g c ws _ _ _ (h.below (by (repeat' (first | (with_reducible exact Below.refl _ _) | (with_reducible assumption) | (with_reducible refine Below.alloc ?_ ?_ _) | (with_reducible refine Below.drew ?_) | (with_reducible refine below_drewN ?_ _) | (with_reducible refine Below.setCell ?_ ?_ _) | (with_reducible refine Below.trans ?_ (Below.mono (by assumption) ?_)) | (first | go_size | (with_reducible exact Below.size (by assumption)) | (with_reducible exact Nat.le_trans (Below.size (by assumption)) (Below.size (by assumption))) | (refine Nat.le_trans (Below.size (by assumption)) ?_; go_size)))))) hx).mono ?_; rintro e w1 ⟨rfl, hm, hc⟩)
  go_ret
  exact mpost rfl hm hc (by (repeat' (first | (with_reducible exact Below.refl _ _) | (with_reducible assumption) | (with_reducible refine Below.alloc ?_ ?_ _) | (with_reducible refine Below.drew ?_) | (with_reducible refine below_drewN ?_ _) | (with_reducible refine Below.setCell ?_ ?_ _) | (with_reducible refine Below.trans ?_ (Below.mono (by assumption) ?_)) | (first | go_size | (with_reducible exact Below.size (by assumption)) | (with_reducible exact Nat.le_trans (Below.size (by assumption)) (Below.size (by assumption))) | (refine Nat.le_trans (Below.size (by assumption)) ?_; go_size))))) (by (repeat' (first | (with_reducible exact Below.refl _ _) | (with_reducible assumption) | (with_reducible refine Below.alloc ?_ ?_ _) | (with_reducible refine Below.drew ?_) | (with_reducible refine below_drewN ?_ _) | (with_reducible refine Below.setCell ?_ ?_ _) | (with_reducible refine Below.trans ?_ (Below.mono (by assumption) ?_)) | (first | go_size | (with_reducible exact Below.size (by assumption)) | (with_reducible exact Nat.le_trans (Below.size (by assumption)) (Below.size (by assumption))) | (refine Nat.le_trans (Below.size (by assumption)) ?_; go_size)))))

theorem swaps_any (b g c : Nat) (ws : List Int) (i x want no : Int) (w : World) (h : MemAt w b g c ws) (hx : 0 ≤ x ∧ x ≤ 18446744073709551615) :
    Calls Try.prog 27 #[memI b, .int .i64 i, .int .u64 x, .int .u64 want, .int .i64 no] w (MPost w b g c (doWs ws 4 i 0 x) (.bool (doB ws 4 i == want && doE ws 4 i == no))) := by
  cases h1 : (doB ws 4 i == want) <;> cases h2 : (doE ws 4 i == no)
  all_goals
    go_enter Try.func27, Try.ntmps27
    go_wp2_with (go_at_call 26; refine (mswap_any b g c ws _ _ _ (h.below (by (repeat' (first | (with_reducible exact Below.refl _ _) | (with_reducible assumption) | (with_reducible refine Below.alloc ?_ ?_ _) | (with_reducible refine Below.drew ?_) | (with_reducible refine below_drewN ?_ _) | (with_reducible refine Below.setCell ?_ ?_ _) | (with_reducible refine Below.trans ?_ (Below.mono (by assumption) ?_)) | (first | go_size | (with_reducible exact Below.size (by assumption)) | (with_reducible exact Nat.le_trans (Below.size (by assumption)) (Below.size (by assumption))) | (refine Nat.le_trans (Below.size (by assumption)) ?_; go_size)))))) hx).mono ?_; rintro e w1 ⟨rfl, hm, hc⟩)
    go_ret
    exact mpost rfl hm hc (by (repeat' (first | (with_reducible exact Below.refl _ _) | (with_reducible assumption) | (with_reducible refine Below.alloc ?_ ?_ _) | (with_reducible refine Below.drew ?_) | (with_reducible refine below_drewN ?_ _) | (with_reducible refine Below.setCell ?_ ?_ _) | (with_reducible refine Below.trans ?_ (Below.mono (by assumption) ?_)) | (first | go_size | (with_reducible exact Below.size (by assumption)) | (with_reducible exact Nat.le_trans (Below.size (by assumption)) (Below.size (by assumption))) | (refine Nat.le_trans (Below.size (by assumption)) ?_; go_size))))) (by (repeat' (first | (with_reducible exact Below.refl _ _) | (with_reducible assumption) | (with_reducible refine Below.alloc ?_ ?_ _) | (with_reducible refine Below.drew ?_) | (with_reducible refine below_drewN ?_ _) | (with_reducible refine Below.setCell ?_ ?_ _) | (with_reducible refine Below.trans ?_ (Below.mono (by assumption) ?_)) | (first | go_size | (with_reducible exact Below.size (by assumption)) | (with_reducible exact Nat.le_trans (Below.size (by assumption)) (Below.size (by assumption))) | (refine Nat.le_trans (Below.size (by assumption)) ?_; go_size)))))

theorem compares_any (b g c : Nat) (ws : List Int) (i o x : Int) (want : Bool) (no : Int) (w : World) (h : MemAt w b g c ws) (hx : 0 ≤ x ∧ x ≤ 18446744073709551615) :
    Calls Try.prog 30 #[memI b, .int .i64 i, .int .u64 o, .int .u64 x, .bool want, .int .i64 no] w (MPost w b g c (doWs ws 3 i o x) (.bool (((doE ws 3 i == 0 && doB ws 3 i == o) == want) && doE ws 3 i == no))) := by
  obtain ⟨r, hr⟩ : ∃ r, r = (doE ws 3 i == 0 && doB ws 3 i == o) := ⟨_, rfl⟩
  have HR := Lib.hid hr
  rw [← hr]
  clear hr
  cases h1 : (r == want) <;> cases h2 : (doE ws 3 i == no)
  all_goals
    go_enter Try.func30, Try.ntmps30
    go_wp2_with (go_at_call 51; refine (mcas_any b g c ws _ _ _ _ (h.below (by (repeat' (first | (with_reducible exact Below.refl _ _) | (with_reducible assumption) | (with_reducible refine Below.alloc ?_ ?_ _) | (with_reducible refine Below.drew ?_) | (with_reducible refine below_drewN ?_ _) | (with_reducible refine Below.setCell ?_ ?_ _) | (with_reducible refine Below.trans ?_ (Below.mono (by assumption) ?_)) | (first | go_size | (with_reducible exact Below.size (by assumption)) | (with_reducible exact Nat.le_trans (Below.size (by assumption)) (Below.size (by assumption))) | (refine Nat.le_trans (Below.size (by assumption)) ?_; go_size)))))) hx).mono ?_; rw [← HR.out]; rintro e w1 ⟨rfl, hm, hc⟩)
    go_ret
    exact mpost rfl hm hc (by (repeat' (first | (with_reducible exact Below.refl _ _) | (with_reducible assumption) | (with_reducible refine Below.alloc ?_ ?_ _) | (with_reducible refine Below.drew ?_) | (with_reducible refine below_drewN ?_ _) | (with_reducible refine Below.setCell ?_ ?_ _) | (with_reducible refine Below.trans ?_ (Below.mono (by assumption) ?_)) | (first | go_size | (with_reducible exact Below.size (by assumption)) | (with_reducible exact Nat.le_trans (Below.size (by assumption)) (Below.size (by assumption))) | (refine Nat.le_trans (Below.size (by assumption)) ?_; go_size))))) (by (repeat' (first | (with_reducible exact Below.refl _ _) | (with_reducible assumption) | (with_reducible refine Below.alloc ?_ ?_ _) | (with_reducible refine Below.drew ?_) | (with_reducible refine below_drewN ?_ _) | (with_reducible refine Below.setCell ?_ ?_ _) | (with_reducible refine Below.trans ?_ (Below.mono (by assumption) ?_)) | (first | go_size | (with_reducible exact Below.size (by assumption)) | (with_reducible exact Nat.le_trans (Below.size (by assumption)) (Below.size (by assumption))) | (refine Nat.le_trans (Below.size (by assumption)) ?_; go_size)))))

end Go.Proofs.Ytiahhpjkpdiibaa
