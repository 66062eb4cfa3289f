/-
  The walk of VersionNew: it returns true at every input.
-/
import Derived.Test.YtbhcgmiglkocbaaK11
import Derived.Test.YtbhcgmiglkocbaaRVer
namespace Go.Proofs.Ytbhcgmiglkocbaa
open Go.RowKit
namespace VersionNew
theorem wf_i64 {x : Int} (h : (Lit.int .i64 x).wf = true) : -9223372036854775808 ≤ x ∧ x ≤ 9223372036854775807 := by
  simp [Lit.wf, IntKind.min, IntKind.max, IntKind.signed, IntKind.bits] at h
  omega
theorem wf_u64 {x : Int} (h : (Lit.int .u64 x).wf = true) : 0 ≤ x ∧ x ≤ 18446744073709551615 := by
  simp [Lit.wf, IntKind.min, IntKind.max, IntKind.signed, IntKind.bits] at h
  omega
set_option maxRecDepth 100000 in
set_option maxHeartbeats 4000000 in
theorem walk (x : Int) (wx : (Lit.int .u64 x).wf = true) (v : Int) (_wv : (Lit.int .i64 v).wf = true) (f : Int) (_wf : (Lit.int .i64 f).wf = true) (n : Int) (_wn : (Lit.int .i64 n).wf = true) (t : Int) (wt : (Lit.int .i64 t).wf = true)
    (A : Option Addr) (k c : Nat) (xs : List Int) (l : xs.length = k) (_mk : k ≤ c) (_b : c ≤ 9223372036854775807) (z : A = none → c = 0)
    (w : World) (r : Rd (fun b => b < w.heap.size) w A (xs.map (Value.int .u64))) (y : ∀ x ∈ xs, (Lit.int .u64 x).wf = true) :
    Calls Try.prog 3 #[.int .u64 x, .int .i64 v, .int .i64 f, .int .i64 n, .int .i64 t, .slice A k c] w fun e w' => e = .returned (.bool true) ∧ Below w.heap.size w w' := by
  have hx := wf_u64 wx
  have ht := wf_i64 wt
  have hr : Rd (fun _ => True) w A (u64s xs) := r.mono (fun _ _ _ => trivial)
  have HWF := Lib.hid (fun x hx => wf_u64 (y x hx) : ∀ x ∈ xs, 0 ≤ x ∧ x ≤ 18446744073709551615)
  have HL := Lib.hid l
  clear wx wt r y l
  by_cases hg : 300 < k
  · have d1 : decide (300 < (k : Int)) = true := decide_eq_true (by omega)
    go_enter Try.func3, Try.ntmps3
    go_wp2_with (first | (go_at_call 8; refine (known_ok _).mono ?_; rintro e w' ⟨rfl, hkb⟩))
    go_ret
    exact ⟨rfl, by (repeat' (first | (with_reducible exact Below.refl _ _) | (with_reducible assumption) | (with_reducible refine Below.alloc ?_ ?_ _) | (with_reducible refine Below.drew ?_) | (with_reducible refine below_drewN ?_ _) | (with_reducible refine Below.setCell ?_ ?_ _) | (with_reducible refine Below.trans ?_ (Below.mono (by assumption) ?_)) | (first | go_size | (with_reducible exact Below.size (by assumption)) | (with_reducible exact Nat.le_trans (Below.size (by assumption)) (Below.size (by assumption))) | (refine Nat.le_trans (Below.size (by assumption)) ?_; go_size))))⟩
  have d1 : decide (300 < (k : Int)) = false := decide_eq_false (by omega)
  have hk : k ≤ 300 := by omega
  clear hg
  have hev := fun W => even_any x W hx.1
  obtain ⟨E, hE⟩ : ∃ E, (x % 2 == 0) = E := ⟨_, rfl⟩
  rw [hE] at hev
  have hee : (E != E) = false := by simp
  have HEE := Lib.hid hE
  by_cases hok : OkV v f n
  · have hrr := fun W => right_ok v f n W hok
    by_cases ht1 : t < 1
    · have d2 : decide (t < 1) = true := decide_eq_true ht1
      have hnr := newrd_bad v f n t w (.inr ht1)
      have hB : Below w.heap.size w w := Below.refl _ _
      clear hok
      go_enter Try.func3, Try.ntmps3
      go_wp2_with fail
      refine (hev _).mono ?_
      rintro e w' ⟨rfl, rfl⟩
      rw [← HEE.out] at hee ⊢
      clear hev
      go_wp2_with fail
      refine hnr.mono ?_
      rintro e w' ⟨rfl, rfl⟩
      clear hnr
      go_wp2_with (go_at_call 11; refine (hrr _).mono ?_; rintro e w' ⟨rfl, rfl⟩)
      clear hrr
      by_cases hkw : OkV v f k
      · have hw := newwr_ok v f A xs k c w (by rw [HL.out]; exact hkw) hr HL.out z HWF.out
        have hrt := fun W => right_ok v f k W hkw
        clear hkw
        go_wp2_with fail
        refine hw.mono ?_
        rintro e w2 ⟨r2, A2, c2, rfl, k1, k2, hb⟩
        have hB2 := hB.trans (hb.mono hB.size)
        have hdn := wdone_any w.heap.size r2 v f A2 c2 xs ⟨0, 0, false⟩ w2 k1
        have hrs := wresult_any w.heap.size r2 v f A2 c2 xs ⟨0, 0, false⟩ w2 k1
        dsimp only at hdn hrs
        rw [if_neg (by simp)] at hrs
        clear hb k1 k2 hw
        go_wp2_with (first | (go_at_call 11; refine (hrt _).mono ?_; rintro e w' ⟨rfl, rfl⟩) | (go_at_call 17; refine hdn.mono ?_; rintro e w' ⟨rfl, rfl⟩) | (go_at_call 18; refine hrs.mono ?_; rintro e w' ⟨rfl, rfl⟩) | (go_at_call 8; refine (known_ok _).mono ?_; rintro e w' ⟨rfl, hkb⟩))
        go_ret
        exact ⟨rfl, by (repeat' (first | (with_reducible exact Below.refl _ _) | (with_reducible assumption) | (with_reducible refine Below.alloc ?_ ?_ _) | (with_reducible refine Below.drew ?_) | (with_reducible refine below_drewN ?_ _) | (with_reducible refine Below.setCell ?_ ?_ _) | (with_reducible refine Below.trans ?_ (Below.mono (by assumption) ?_)) | (first | go_size | (with_reducible exact Below.size (by assumption)) | (with_reducible exact Nat.le_trans (Below.size (by assumption)) (Below.size (by assumption))) | (refine Nat.le_trans (Below.size (by assumption)) ?_; go_size))))⟩
      · have hw := newwr_bad v f A k c w hkw
        have hrt := fun W => right_bad v f k W hkw
        clear hkw
        go_wp2_with fail
        refine hw.mono ?_
        rintro e w' ⟨rfl, rfl⟩
        clear hw
        go_wp2_with (first | (go_at_call 11; refine (hrt _).mono ?_; rintro e w' ⟨rfl, rfl⟩) | (go_at_call 8; refine (known_ok _).mono ?_; rintro e w' ⟨rfl, hkb⟩))
        go_ret
        exact ⟨rfl, by (repeat' (first | (with_reducible exact Below.refl _ _) | (with_reducible assumption) | (with_reducible refine Below.alloc ?_ ?_ _) | (with_reducible refine Below.drew ?_) | (with_reducible refine below_drewN ?_ _) | (with_reducible refine Below.setCell ?_ ?_ _) | (with_reducible refine Below.trans ?_ (Below.mono (by assumption) ?_)) | (first | go_size | (with_reducible exact Below.size (by assumption)) | (with_reducible exact Nat.le_trans (Below.size (by assumption)) (Below.size (by assumption))) | (refine Nat.le_trans (Below.size (by assumption)) ?_; go_size))))⟩

    · have d2 : decide (t < 1) = false := decide_eq_false ht1
      have hnr := newrd_ok v f n t w hok (by omega) (by omega)
      clear hok
      go_enter Try.func3, Try.ntmps3
      go_wp2_with fail
      refine (hev _).mono ?_
      rintro e w' ⟨rfl, rfl⟩
      rw [← HEE.out] at hee ⊢
      clear hev
      go_wp2_with fail
      refine hnr.mono ?_
      rintro e w1 ⟨r1, rfl, q1, q2, hB⟩
      have hdn1 := rdone_any w.heap.size r1 v f n (rs0 t) _ w1 q1
      have hrs1 := rresult_any w.heap.size r1 v f n (rs0 t) _ w1 q1
      have hwd1 := rwords_none w.heap.size r1 v f n (rs0 t) _ w1 q1 rfl
      have hvr1 := rversion_any w.heap.size r1 v f n (rs0 t) _ w1 q1
      rw [if_pos (show (rs0 t).res = 0 from rfl)] at hvr1
      dsimp only [rs0] at hdn1 hrs1
      clear hnr q1 q2
      go_wp2_with (first | (go_at_call 11; refine (hrr _).mono ?_; rintro e w' ⟨rfl, rfl⟩) | (go_at_call 12; refine hdn1.mono ?_; rintro e w' ⟨rfl, rfl⟩) | (go_at_call 13; refine hrs1.mono ?_; rintro e w' ⟨rfl, rfl⟩) | (go_at_call 14; refine hwd1.mono ?_; rintro e w' ⟨rfl, rfl⟩) | (go_at_call 15; refine hvr1.mono ?_; rintro e w' ⟨rfl, rfl⟩))
      clear hrr hdn1 hrs1 hwd1 hvr1
      have hr1 := hr.keep (Ch.of_below hB (fun _ => False)) (fun _ _ _ e => e)
      by_cases hkw : OkV v f k
      · have hw := newwr_ok v f A xs k c w1 (by rw [HL.out]; exact hkw) hr1 HL.out z HWF.out
        have hrt := fun W => right_ok v f k W hkw
        clear hkw
        go_wp2_with fail
        refine hw.mono ?_
        rintro e w2 ⟨r2, A2, c2, rfl, k1, k2, hb⟩
        have hB2 := hB.trans (hb.mono hB.size)
        have hdn := wdone_any w1.heap.size r2 v f A2 c2 xs ⟨0, 0, false⟩ w2 k1
        have hrs := wresult_any w1.heap.size r2 v f A2 c2 xs ⟨0, 0, false⟩ w2 k1
        dsimp only at hdn hrs
        rw [if_neg (by simp)] at hrs
        clear hb k1 k2 hw
        go_wp2_with (first | (go_at_call 11; refine (hrt _).mono ?_; rintro e w' ⟨rfl, rfl⟩) | (go_at_call 17; refine hdn.mono ?_; rintro e w' ⟨rfl, rfl⟩) | (go_at_call 18; refine hrs.mono ?_; rintro e w' ⟨rfl, rfl⟩) | (go_at_call 8; refine (known_ok _).mono ?_; rintro e w' ⟨rfl, hkb⟩))
        go_ret
        exact ⟨rfl, by (repeat' (first | (with_reducible exact Below.refl _ _) | (with_reducible assumption) | (with_reducible refine Below.alloc ?_ ?_ _) | (with_reducible refine Below.drew ?_) | (with_reducible refine below_drewN ?_ _) | (with_reducible refine Below.setCell ?_ ?_ _) | (with_reducible refine Below.trans ?_ (Below.mono (by assumption) ?_)) | (first | go_size | (with_reducible exact Below.size (by assumption)) | (with_reducible exact Nat.le_trans (Below.size (by assumption)) (Below.size (by assumption))) | (refine Nat.le_trans (Below.size (by assumption)) ?_; go_size))))⟩
      · have hw := newwr_bad v f A k c w1 hkw
        have hrt := fun W => right_bad v f k W hkw
        clear hkw
        go_wp2_with fail
        refine hw.mono ?_
        rintro e w' ⟨rfl, rfl⟩
        clear hw
        go_wp2_with (first | (go_at_call 11; refine (hrt _).mono ?_; rintro e w' ⟨rfl, rfl⟩) | (go_at_call 8; refine (known_ok _).mono ?_; rintro e w' ⟨rfl, hkb⟩))
        go_ret
        exact ⟨rfl, by (repeat' (first | (with_reducible exact Below.refl _ _) | (with_reducible assumption) | (with_reducible refine Below.alloc ?_ ?_ _) | (with_reducible refine Below.drew ?_) | (with_reducible refine below_drewN ?_ _) | (with_reducible refine Below.setCell ?_ ?_ _) | (with_reducible refine Below.trans ?_ (Below.mono (by assumption) ?_)) | (first | go_size | (with_reducible exact Below.size (by assumption)) | (with_reducible exact Nat.le_trans (Below.size (by assumption)) (Below.size (by assumption))) | (refine Nat.le_trans (Below.size (by assumption)) ?_; go_size))))⟩

  · have hrr := fun W => right_bad v f n W hok
    have hnr := newrd_bad v f n t w (.inl hok)
    have hB : Below w.heap.size w w := Below.refl _ _
    clear hok
    go_enter Try.func3, Try.ntmps3
    go_wp2_with fail
    refine (hev _).mono ?_
    rintro e w' ⟨rfl, rfl⟩
    rw [← HEE.out] at hee ⊢
    clear hev
    go_wp2_with fail
    refine hnr.mono ?_
    rintro e w' ⟨rfl, rfl⟩
    clear hnr
    go_wp2_with (go_at_call 11; refine (hrr _).mono ?_; rintro e w' ⟨rfl, rfl⟩)
    clear hrr
    by_cases hkw : OkV v f k
    · have hw := newwr_ok v f A xs k c w (by rw [HL.out]; exact hkw) hr HL.out z HWF.out
      have hrt := fun W => right_ok v f k W hkw
      clear hkw
      go_wp2_with fail
      refine hw.mono ?_
      rintro e w2 ⟨r2, A2, c2, rfl, k1, k2, hb⟩
      have hB2 := hB.trans (hb.mono hB.size)
      have hdn := wdone_any w.heap.size r2 v f A2 c2 xs ⟨0, 0, false⟩ w2 k1
      have hrs := wresult_any w.heap.size r2 v f A2 c2 xs ⟨0, 0, false⟩ w2 k1
      dsimp only at hdn hrs
      rw [if_neg (by simp)] at hrs
      clear hb k1 k2 hw
      go_wp2_with (first | (go_at_call 11; refine (hrt _).mono ?_; rintro e w' ⟨rfl, rfl⟩) | (go_at_call 17; refine hdn.mono ?_; rintro e w' ⟨rfl, rfl⟩) | (go_at_call 18; refine hrs.mono ?_; rintro e w' ⟨rfl, rfl⟩) | (go_at_call 8; refine (known_ok _).mono ?_; rintro e w' ⟨rfl, hkb⟩))
      go_ret
      exact ⟨rfl, by (repeat' (first | (with_reducible exact Below.refl _ _) | (with_reducible assumption) | (with_reducible refine Below.alloc ?_ ?_ _) | (with_reducible refine Below.drew ?_) | (with_reducible refine below_drewN ?_ _) | (with_reducible refine Below.setCell ?_ ?_ _) | (with_reducible refine Below.trans ?_ (Below.mono (by assumption) ?_)) | (first | go_size | (with_reducible exact Below.size (by assumption)) | (with_reducible exact Nat.le_trans (Below.size (by assumption)) (Below.size (by assumption))) | (refine Nat.le_trans (Below.size (by assumption)) ?_; go_size))))⟩
    · have hw := newwr_bad v f A k c w hkw
      have hrt := fun W => right_bad v f k W hkw
      clear hkw
      go_wp2_with fail
      refine hw.mono ?_
      rintro e w' ⟨rfl, rfl⟩
      clear hw
      go_wp2_with (first | (go_at_call 11; refine (hrt _).mono ?_; rintro e w' ⟨rfl, rfl⟩) | (go_at_call 8; refine (known_ok _).mono ?_; rintro e w' ⟨rfl, hkb⟩))
      go_ret
      exact ⟨rfl, by (repeat' (first | (with_reducible exact Below.refl _ _) | (with_reducible assumption) | (with_reducible refine Below.alloc ?_ ?_ _) | (with_reducible refine Below.drew ?_) | (with_reducible refine below_drewN ?_ _) | (with_reducible refine Below.setCell ?_ ?_ _) | (with_reducible refine Below.trans ?_ (Below.mono (by assumption) ?_)) | (first | go_size | (with_reducible exact Below.size (by assumption)) | (with_reducible exact Nat.le_trans (Below.size (by assumption)) (Below.size (by assumption))) | (refine Nat.le_trans (Below.size (by assumption)) ?_; go_size))))⟩

end VersionNew
end Go.Proofs.Ytbhcgmiglkocbaa
