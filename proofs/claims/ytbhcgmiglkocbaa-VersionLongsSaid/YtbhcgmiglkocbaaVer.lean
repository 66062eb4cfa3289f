/-
  Contracts of package version: which words may be read or written, new programs, a reader.
-/
import Derived.Test.YtbhcgmiglkocbaaVMade
import Derived.Test.YtbhcgmiglkocbaaVerPure
namespace Go.Proofs.Ytbhcgmiglkocbaa
open Go.RowKit

theorem even_any (v : Int) (w : World) (h0 : 0 ≤ v) : Calls Try.prog 9 #[.int .u64 v] w fun e w' => e = .returned (.bool (v % 2 == 0)) ∧ w = w' := by
  go_enter Try.func9, Try.ntmps9
  go_wp2
  go_ret
  exact ⟨rfl, rfl⟩
theorem word_any (n : Int) (w : World) : Calls Try.prog 41 #[.int .i64 n] w fun e w' => e = .returned (.bool (wordB n)) ∧ w = w' := by
  by_cases h1 : n < 0
  · have hv : wordB n = false := by simp [wordB]; omega
    go_enter Try.func41, Try.ntmps41
    go_wp2
    go_ret
    exact ⟨by first | rfl | (rw [hv]; rfl), rfl⟩
  by_cases h2 : n < 65536
  · have hv : wordB n = true := by simp [wordB]; omega
    have hd : decide (n < 65536) = true := decide_eq_true h2
    go_enter Try.func41, Try.ntmps41
    go_wp2
    go_ret
    exact ⟨by first | rfl | (rw [hv]; rfl), rfl⟩
  · have hv : wordB n = false := by simp [wordB]; omega
    have hd : decide (n < 65536) = false := decide_eq_false h2
    go_enter Try.func41, Try.ntmps41
    go_wp2
    go_ret
    exact ⟨by first | rfl | (rw [hv]; rfl), rfl⟩
theorem word_yes (n : Int) (w : World) (h : 0 ≤ n ∧ n < 65536) : Calls Try.prog 41 #[.int .i64 n] w fun e w' => e = .returned (.bool true) ∧ w = w' := by
  have := word_any n w
  rwa [show wordB n = true by simp [wordB]; omega] at this
theorem word_no (n : Int) (w : World) (h : n < 0 ∨ 65536 ≤ n) : Calls Try.prog 41 #[.int .i64 n] w fun e w' => e = .returned (.bool false) ∧ w = w' := by
  have := word_any n w
  rwa [show wordB n = false by simp [wordB]; omega] at this
set_option maxHeartbeats 400000 in
theorem wrong_ok (v f n : Int) (w : World) (h : OkV v f n) : Calls Try.prog 34 #[.int .i64 v, .int .i64 f, .int .i64 n] w fun e w' => e = .returned (.bool false) ∧ w = w' := by
  obtain ⟨v0, v1, n0, n1, fr⟩ := h
  have hw := word_yes v w ⟨v0, v1⟩
  have d1 : decide (n < 0) = false := decide_eq_false (by omega)
  have d2 : decide (256 < n) = false := decide_eq_false (by omega)
  by_cases hn : 0 < n
  · obtain ⟨f0, f1, f2, f3⟩ := fr hn
    have hwf := word_yes f w ⟨f0, f1⟩
    have d3 : decide (0 < n) = true := decide_eq_true hn
    have d4 : decide (65536 - n < f) = false := decide_eq_false (by omega)
    by_cases hv : f ≤ v
    · have d5 : decide (f ≤ v) = true := decide_eq_true hv
      have d6 : decide (v < f + n) = false := decide_eq_false (by omega)
      clear fr f3
      go_enter Try.func34, Try.ntmps34
      go_wp2_with fail
      refine hw.mono ?_
      rintro e w' ⟨rfl, rfl⟩
      go_wp2_with fail
      refine hwf.mono ?_
      rintro e w' ⟨rfl, rfl⟩
      go_wp2_with fail
      go_ret
      exact ⟨rfl, rfl⟩
    · have d5 : decide (f ≤ v) = false := decide_eq_false hv
      clear fr f3
      go_enter Try.func34, Try.ntmps34
      go_wp2_with fail
      refine hw.mono ?_
      rintro e w' ⟨rfl, rfl⟩
      go_wp2_with fail
      refine hwf.mono ?_
      rintro e w' ⟨rfl, rfl⟩
      go_wp2_with fail
      go_ret
      exact ⟨rfl, rfl⟩
  · have d3 : decide (0 < n) = false := decide_eq_false hn
    clear fr
    go_enter Try.func34, Try.ntmps34
    go_wp2_with fail
    refine hw.mono ?_
    rintro e w' ⟨rfl, rfl⟩
    go_wp2_with fail
    go_ret
    exact ⟨rfl, rfl⟩
set_option maxHeartbeats 400000 in
theorem wrong_bad (v f n : Int) (w : World) (h : ¬ OkV v f n) : Calls Try.prog 34 #[.int .i64 v, .int .i64 f, .int .i64 n] w fun e w' => e = .returned (.bool true) ∧ w = w' := by
  have hh := Lib.hid h
  clear h
  by_cases hv : v < 0 ∨ 65536 ≤ v
  · have hw := word_no v w hv
    clear hv
    go_enter Try.func34, Try.ntmps34
    go_wp2_with fail
    refine hw.mono ?_
    rintro e w' ⟨rfl, rfl⟩
    go_wp2_with fail
    go_ret
    exact ⟨rfl, rfl⟩
  have hw := word_yes v w (by omega)
  by_cases h1 : n < 0
  · have d1 : decide (n < 0) = true := decide_eq_true h1
    clear hv
    go_enter Try.func34, Try.ntmps34
    go_wp2_with fail
    refine hw.mono ?_
    rintro e w' ⟨rfl, rfl⟩
    go_wp2_with fail
    go_ret
    exact ⟨rfl, rfl⟩
  have d1 : decide (n < 0) = false := decide_eq_false h1
  by_cases h2 : 256 < n
  · have d2 : decide (256 < n) = true := decide_eq_true h2
    clear hv h1
    go_enter Try.func34, Try.ntmps34
    go_wp2_with fail
    refine hw.mono ?_
    rintro e w' ⟨rfl, rfl⟩
    go_wp2_with fail
    go_ret
    exact ⟨rfl, rfl⟩
  have d2 : decide (256 < n) = false := decide_eq_false h2
  have h3 : 0 < n := by
    apply Classical.byContradiction
    intro hc
    exact hh.out ⟨by omega, by omega, by omega, by omega, fun h => absurd h hc⟩
  have d3 : decide (0 < n) = true := decide_eq_true h3
  by_cases h4 : f < 0 ∨ 65536 ≤ f
  · have hwf := word_no f w h4
    clear hv h4
    go_enter Try.func34, Try.ntmps34
    go_wp2_with fail
    refine hw.mono ?_
    rintro e w' ⟨rfl, rfl⟩
    go_wp2_with fail
    refine hwf.mono ?_
    rintro e w' ⟨rfl, rfl⟩
    go_wp2_with fail
    go_ret
    exact ⟨rfl, rfl⟩
  have hwf := word_yes f w (by omega)
  by_cases h5 : 65536 - n < f
  · have d4 : decide (65536 - n < f) = true := decide_eq_true h5
    clear hv h4
    go_enter Try.func34, Try.ntmps34
    go_wp2_with fail
    refine hw.mono ?_
    rintro e w' ⟨rfl, rfl⟩
    go_wp2_with fail
    refine hwf.mono ?_
    rintro e w' ⟨rfl, rfl⟩
    go_wp2_with fail
    go_ret
    exact ⟨rfl, rfl⟩
  have d4 : decide (65536 - n < f) = false := decide_eq_false h5
  have h6 : f ≤ v ∧ v < f + n := by
    apply Classical.byContradiction
    intro hc
    exact hh.out ⟨by omega, by omega, by omega, by omega, fun _ => ⟨by omega, by omega, by omega, by omega⟩⟩
  have d5 : decide (f ≤ v) = true := decide_eq_true h6.1
  have d6 : decide (v < f + n) = true := decide_eq_true h6.2
  have h7 : 0 ≤ f := by omega
  have h8 : f < 65536 := by omega
  clear hv h4 h6
  go_enter Try.func34, Try.ntmps34
  go_wp2_with fail
  refine hw.mono ?_
  rintro e w' ⟨rfl, rfl⟩
  go_wp2_with fail
  refine hwf.mono ?_
  rintro e w' ⟨rfl, rfl⟩
  go_wp2_with fail
  go_ret
  exact ⟨rfl, rfl⟩

/-! ### a reader -/
def rdV (v f n : Int) (s : Rs) (lv : Value) : List Value := [.bool true, .int .i64 v, .int .i64 f, .int .i64 n, .int .i64 s.tr, .bool s.lk, .int .u64 s.fst, lv, .int .u64 s.res, .bool s.ed]
structure RdAt (B : Nat) (w : World) (r : Nat) (v f n : Int) (s : Rs) (lv : Value) : Prop where
  hd : Blk w r 53 (rdV v f n s lv)
  own : w.ownsRow B 22 1 lv s.l.length (u64s s.l)
  tr0 : 0 ≤ s.tr
  tr1 : s.tr ≤ 9223372036854775807
  go : s.ed = false → 1 ≤ s.tr
  ok : OkV v f n
  ln : (s.l.length : Int) ≤ n
  f0 : 0 ≤ s.fst ∧ s.fst ≤ 18446744073709551615
  sz : B ≤ w.heap.size
section
variable {B r : Nat} {w w' : World} {v f n : Int} {s : Rs} {lv : Value}
theorem RdAt.keep {F : Nat → Prop} (h : RdAt B w r v f n s lv) (hc : Ch F w w') (hr : ¬ F r) (hl : ∀ k, lv.ownBlock = some k → ¬ F k) : RdAt B w' r v f n s lv :=
  { h with hd := h.hd.keep hc hr, own := own_keep h.own hc (fun k hk _ => hl k hk), sz := Nat.le_trans h.sz hc.size }
theorem RdAt.below (h : RdAt B w r v f n s lv) (hb : Below w.heap.size w w') : RdAt B w' r v f n s lv := h.keep (Ch.of_below hb (fun _ => False)) (fun e => e) (fun _ _ e => e)
end
def rs0 (tries : Int) : Rs := ⟨false, 0, [], tries, 0, false⟩
def NewRdP (v f n tries : Int) (w : World) (e : Ending) (w' : World) : Prop :=
  ∃ r, e = .returned (.tuple #[.pointer (some ⟨r, 0, none⟩), .int .i64 0]) ∧ RdAt w.heap.size w' r v f n (rs0 tries) (.slice none 0 0) ∧ w.heap.size ≤ r ∧ Below w.heap.size w w'
theorem newrd_ok (v f n tries : Int) (w : World) (h : OkV v f n) (ht : 1 ≤ tries) (ht2 : tries ≤ 9223372036854775807) :
    Calls Try.prog 10 #[.int .i64 v, .int .i64 f, .int .i64 n, .int .i64 tries] w (NewRdP v f n tries w) := by
  have hw := wrong_ok v f n w h
  have d1 : decide (tries < 1) = false := decide_eq_false (by omega)
  have hn := h.n0
  have hh := Lib.hid h
  clear h
  go_enter Try.func10, Try.ntmps10
  go_wp2_with fail
  refine hw.mono ?_
  rintro e w' ⟨rfl, rfl⟩
  go_wp2_with fail
  go_ret2
  exact ⟨w.heap.size, rfl, ⟨Blk.new w _ (rdV v f n (rs0 tries) (.slice none 0 0)), own_none _ _ _ _, by show 0 ≤ tries; omega, ht2, fun _ => ht, hh.out, by show ((([] : List Int).length : Nat) : Int) ≤ n; simpa using hn, by show (0 : Int) ≤ 0 ∧ (0 : Int) ≤ 18446744073709551615; omega, by simp⟩, Nat.le_refl _, by (repeat' (first | (with_reducible exact Below.refl _ _) | (with_reducible assumption) | (with_reducible refine Below.alloc ?_ ?_ _) | (with_reducible refine Below.drew ?_) | (with_reducible refine below_drewN ?_ _) | (with_reducible refine Below.setCell ?_ ?_ _) | (with_reducible refine Below.trans ?_ (Below.mono (by assumption) ?_)) | (first | go_size | (with_reducible exact Below.size (by assumption)) | (with_reducible exact Nat.le_trans (Below.size (by assumption)) (Below.size (by assumption))) | (refine Nat.le_trans (Below.size (by assumption)) ?_; go_size))))⟩
theorem newrd_bad (v f n tries : Int) (w : World) (h : ¬ OkV v f n ∨ tries < 1) :
    Calls Try.prog 10 #[.int .i64 v, .int .i64 f, .int .i64 n, .int .i64 tries] w fun e w' => e = .returned (.tuple #[.pointer none, .int .i64 2]) ∧ w = w' := by
  by_cases hk : OkV v f n
  · have hw := wrong_ok v f n w hk
    have ht : tries < 1 := by rcases h with h | h; exact absurd hk h; exact h
    have d1 : decide (tries < 1) = true := decide_eq_true ht
    clear h hk
    go_enter Try.func10, Try.ntmps10
    go_wp2_with fail
    refine hw.mono ?_
    rintro e w' ⟨rfl, rfl⟩
    go_wp2_with fail
    go_ret2
    exact ⟨rfl, rfl⟩
  · have hw := wrong_bad v f n w hk
    clear h hk
    go_enter Try.func10, Try.ntmps10
    go_wp2_with fail
    refine hw.mono ?_
    rintro e w' ⟨rfl, rfl⟩
    go_wp2_with fail
    go_ret2
    exact ⟨rfl, rfl⟩
section
variable (B r : Nat) (v f n : Int) (s : Rs) (lv : Value) (w : World) (h : RdAt B w r v f n s lv)
include h
theorem rdone_any : Calls Try.prog 12 #[.pointer (some ⟨r, 0, none⟩)] w fun e w' => e = .returned (.bool s.ed) ∧ w = w' := by
  have c0 : w.cell? ⟨r, 0, none⟩ = some (.bool true) := h.hd.cell 0
  have c9 : w.cell? ⟨r, 9, none⟩ = some (.bool s.ed) := h.hd.cell 9
  cases he : s.ed
  all_goals
    rw [he] at c9
    clear h
    go_enter Try.func12, Try.ntmps12
    go_wp2
    go_ret
    exact ⟨rfl, rfl⟩
theorem rresult_any : Calls Try.prog 13 #[.pointer (some ⟨r, 0, none⟩)] w fun e w' => e = .returned (.int .u64 s.res) ∧ w = w' := by
  have c8 : w.cell? ⟨r, 8, none⟩ = some (.int .u64 s.res) := h.hd.cell 8
  clear h
  go_enter Try.func13, Try.ntmps13
  go_wp2
  go_ret
  exact ⟨rfl, rfl⟩
theorem rversion_any : Calls Try.prog 15 #[.pointer (some ⟨r, 0, none⟩)] w fun e w' => e = .returned (.int .u64 (if s.res = 0 then 0 else s.fst)) ∧ w = w' := by
  have c6 : w.cell? ⟨r, 6, none⟩ = some (.int .u64 s.fst) := h.hd.cell 6
  have hr := rresult_any B r v f n s lv w h
  clear h
  by_cases h0 : s.res = 0
  · rw [if_pos h0]
    rw [h0] at hr
    clear h0
    go_enter Try.func15, Try.ntmps15
    go_wp2_with (go_at_call 13; refine hr.mono ?_; rintro e w' ⟨rfl, rfl⟩)
    go_ret
    exact ⟨rfl, rfl⟩
  · rw [if_neg h0]
    have e1 : (s.res == 0) = false := by simpa using h0
    clear h0
    go_enter Try.func15, Try.ntmps15
    go_wp2_with (go_at_call 13; refine hr.mono ?_; rintro e w' ⟨rfl, rfl⟩)
    go_ret
    exact ⟨rfl, rfl⟩
theorem rwords_none (h0 : s.res = 0) : Calls Try.prog 14 #[.pointer (some ⟨r, 0, none⟩)] w fun e w' => e = .returned (.slice none 0 0) ∧ w = w' := by
  have hr := rresult_any B r v f n s lv w h
  rw [h0] at hr
  clear h h0
  go_enter Try.func14, Try.ntmps14
  go_wp2_with (go_at_call 13; refine hr.mono ?_; rintro e w' ⟨rfl, rfl⟩)
  go_ret
  exact ⟨rfl, rfl⟩
theorem rwords_some (h0 : s.res ≠ 0) : Calls Try.prog 14 #[.pointer (some ⟨r, 0, none⟩)] w (ClonePost w s.l.length s.l) := by
  have hr := rresult_any B r v f n s lv w h
  obtain ⟨A, c, rfl, hc, hz⟩ := own_slice h.own
  have c7 : w.cell? ⟨r, 7, none⟩ = some (.slice A s.l.length c) := h.hd.cell 7
  have hl := h.ln
  have hn := h.ok.n1
  have hcl := clone_any A s.l s.l.length c w ((Rd.of_own h.own).mono (fun _ _ _ => trivial)) hz rfl (by omega)
  have e1 : (s.res == 0) = false := by simpa using h0
  clear h h0
  go_enter Try.func14, Try.ntmps14
  go_wp2_with (go_at_call 13; refine hr.mono ?_; rintro e w' ⟨rfl, rfl⟩)
  refine hcl.mono ?_
  rintro e w1 ⟨v1, rfl, k1, k2⟩
  go_wp2
  go_ret
  exact ⟨v1, rfl, k1, k2⟩
end
end Go.Proofs.Ytbhcgmiglkocbaa
