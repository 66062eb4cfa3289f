/-
  The walk of MemSizes: it returns true for every number.
-/
import Derived.Test.YtiahhpjkpdiibaaK01
namespace Go.Proofs.Ytiahhpjkpdiibaa
open Go.RowKit
namespace MemSizes
theorem walk (a : Int) (w : World) : Calls Try.prog 4 #[.int .i64 a] w fun e w' => e = .returned (.bool true) ∧ Below w.heap.size w w' := by
  by_cases h : a < 1 ∨ 65536 < a
  · have h' := h
    rcases h' with h1 | h1
    all_goals
      go_enter Try.func4, Try.ntmps4
      go_wp2_with (first | (go_at_call 9; refine (known_ok _).mono ?_; rintro e w' ⟨rfl, hkb⟩) | (go_at_call 17; refine (mnew_bad a _ h).mono ?_; rintro e w' ⟨rfl, rfl⟩))
      go_ret
      exact ⟨rfl, by (repeat' (first | (with_reducible exact Below.refl _ _) | (with_reducible assumption) | (with_reducible refine Below.alloc ?_ ?_ _) | (with_reducible refine Below.drew ?_) | (with_reducible refine below_drewN ?_ _) | (with_reducible refine Below.setCell ?_ ?_ _) | (with_reducible refine Below.trans ?_ (Below.mono (by assumption) ?_)) | (first | go_size | (with_reducible exact Below.size (by assumption)) | (with_reducible exact Nat.le_trans (Below.size (by assumption)) (Below.size (by assumption))) | (refine Nat.le_trans (Below.size (by assumption)) ?_; go_size))))⟩
  · obtain ⟨n, rfl⟩ : ∃ n : Nat, a = n := ⟨a.toNat, by omega⟩
    have h1 : 1 ≤ n := by omega
    have h2 : n ≤ 65536 := by omega
    have d1 : decide ((n : Int) < 1) = false := decide_eq_false (by omega)
    have d2 : decide ((65536 : Int) < n) = false := decide_eq_false (by omega)
    have hmk := make_u64 n (by omega)
    have hl0 := fun b g (hg : w.heap.size ≤ g) W hW => kpost_lit (W := w) hg (loads_any b g n (List.replicate n 0) ((n : Int) - 1) 0 0 W hW) (by
      obtain ⟨m, rfl⟩ : ∃ m, n = m + 1 := ⟨n - 1, by omega⟩
      have e : (((m + 1 : Nat) : Int) - 1) = (m : Int) := by omega
      rw [e]
      have he := doE_in (List.replicate (m + 1) (0 : Int)) 1 m (by omega) (by simp)
      simp [doB, he])
    have hl1 := fun b g (hg : w.heap.size ≤ g) W hW => kpost_lit (W := w) hg (loads_any b g n (List.replicate n 0) (n : Int) 0 3 W hW) (by
      have he : doE (List.replicate n (0 : Int)) 1 n = 3 := by unfold doE; rw [if_neg (by omega), if_pos (by simp)]
      simp [doB, he])
    generalize hcs : (u64s (List.replicate n 0)).toArray = cs at hmk
    have HC := Lib.hid hcs
    have HH := Lib.hid h
    clear h hcs
    go_enter Try.func4, Try.ntmps4
    go_wp2_with (first | (go_at_call 17; refine (mnew_ok n _ h1 h2).mono ?_; rintro e w1 ⟨b, g, rfl, hm, hb, hg, hbl⟩; have hl := hm.lt) | (go_at_call 15; refine (mlen_any b g n _ _ (hm.below (by (repeat' (first | (with_reducible exact Below.refl _ _) | (with_reducible assumption) | (with_reducible refine Below.alloc ?_ ?_ _) | (with_reducible refine Below.drew ?_) | (with_reducible refine below_drewN ?_ _) | (with_reducible refine Below.setCell ?_ ?_ _) | (with_reducible refine Below.trans ?_ (Below.mono (by assumption) ?_)) | (first | go_size | (with_reducible exact Below.size (by assumption)) | (with_reducible exact Nat.le_trans (Below.size (by assumption)) (Below.size (by assumption))) | (refine Nat.le_trans (Below.size (by assumption)) ?_; go_size))))))).mono ?_; rw [List.length_replicate]; rintro e w' ⟨rfl, rfl⟩))
    refine (words_ok b g n (List.replicate n 0) 0 n (List.replicate n 0) _ (List.replicate n 0) n n 0 _ (hm.below (by (repeat' (first | (with_reducible exact Below.refl _ _) | (with_reducible assumption) | (with_reducible refine Below.alloc ?_ ?_ _) | (with_reducible refine Below.drew ?_) | (with_reducible refine below_drewN ?_ _) | (with_reducible refine Below.setCell ?_ ?_ _) | (with_reducible refine Below.trans ?_ (Below.mono (by assumption) ?_)) | (first | go_size | (with_reducible exact Below.size (by assumption)) | (with_reducible exact Nat.le_trans (Below.size (by assumption)) (Below.size (by assumption))) | (refine Nat.le_trans (Below.size (by assumption)) ?_; go_size)))))) (by omega) (by simp) (by simp) (by rw [← HC.out]; exact Rd.of_blk (Blk.new _ 23 _) (List.prefix_refl _) trivial) (by simp) (by omega) (by omega)).mono ?_
    rintro e w2 ⟨he, hB2⟩
    have he2 : e = .returned (.bool true) := by rw [he]; simp [eqB]
    subst he2
    have hm2 : MemAt w2 b g n (List.replicate n 0) := (hm.below (by (repeat' (first | (with_reducible exact Below.refl _ _) | (with_reducible assumption) | (with_reducible refine Below.alloc ?_ ?_ _) | (with_reducible refine Below.drew ?_) | (with_reducible refine below_drewN ?_ _) | (with_reducible refine Below.setCell ?_ ?_ _) | (with_reducible refine Below.trans ?_ (Below.mono (by assumption) ?_)) | (first | go_size | (with_reducible exact Below.size (by assumption)) | (with_reducible exact Nat.le_trans (Below.size (by assumption)) (Below.size (by assumption))) | (refine Nat.le_trans (Below.size (by assumption)) ?_; go_size)))))).below hB2
    have hB3 : Below w.heap.size w w2 := Below.trans (by (repeat' (first | (with_reducible exact Below.refl _ _) | (with_reducible assumption) | (with_reducible refine Below.alloc ?_ ?_ _) | (with_reducible refine Below.drew ?_) | (with_reducible refine below_drewN ?_ _) | (with_reducible refine Below.setCell ?_ ?_ _) | (with_reducible refine Below.trans ?_ (Below.mono (by assumption) ?_)) | (first | go_size | (with_reducible exact Below.size (by assumption)) | (with_reducible exact Nat.le_trans (Below.size (by assumption)) (Below.size (by assumption))) | (refine Nat.le_trans (Below.size (by assumption)) ?_; go_size))))) (hB2.mono (by (first | go_size | (with_reducible exact Below.size (by assumption)) | (with_reducible exact Nat.le_trans (Below.size (by assumption)) (Below.size (by assumption))) | (refine Nat.le_trans (Below.size (by assumption)) ?_; go_size))))
    clear he hB2 hm
    go_wp2_with fail
    refine (hl0 b g hg _ hm2 hB3).mono ?_
    rintro e w3 ⟨rfl, hm3, hB4⟩
    go_wp2_with fail
    refine (hl1 b g hg _ hm3 hB4).mono ?_
    rintro e w4 ⟨rfl, hm4, hB5⟩
    go_wp2_with (go_at_call 9; refine (known_ok _).mono ?_; rintro e w' ⟨rfl, hkb⟩)
    go_ret
    exact ⟨rfl, by (repeat' (first | (with_reducible exact Below.refl _ _) | (with_reducible assumption) | (with_reducible refine Below.alloc ?_ ?_ _) | (with_reducible refine Below.drew ?_) | (with_reducible refine below_drewN ?_ _) | (with_reducible refine Below.setCell ?_ ?_ _) | (with_reducible refine Below.trans ?_ (Below.mono (by assumption) ?_)) | (first | go_size | (with_reducible exact Below.size (by assumption)) | (with_reducible exact Nat.le_trans (Below.size (by assumption)) (Below.size (by assumption))) | (refine Nat.le_trans (Below.size (by assumption)) ?_; go_size))))⟩
end MemSizes
end Go.Proofs.Ytiahhpjkpdiibaa
