/-
  Contracts of package trace, fourth part: Check, Replay.
-/
import Derived.Test.YtpndlggahdefcaaTr4
namespace Go.Proofs.Ytpndlggahdefcaa
open Go.RowKit
set_option linter.unusedSimpArgs false
set_option linter.unusedVariables false

def CkPost (w : World) (ws : List Int) (l : List Dd) (e : Ending) (w' : World) : Prop :=
  Below w.heap.size w w' ∧
  ((wrongF l ≠ 0 ∧ e = .returned (.tuple #[.int .i64 0, .int .i64 (wrongF l)])) ∨
   (wrongF l = 0 ∧ (ws.length < 1 ∨ 65536 < ws.length) ∧ e = .returned (.tuple #[.int .i64 0, .int .i64 2])) ∨
   (wrongF l = 0 ∧ 1 ≤ ws.length ∧ ws.length ≤ 65536 ∧
     ((∃ k : Nat, k < l.length ∧ fitB ws l k = true ∧ fitB ws l (k + 1) = false ∧ e = .returned (.tuple #[.int .i64 k, .int .i64 0])) ∨
      (fitB ws l l.length = true ∧ e = .returned (.tuple #[.int .i64 (-1), .int .i64 0])))))
theorem check_ok (A B : Option Addr) (ws : List Int) (l : List Dd) (n c m d : Nat) (w : World)
    (hrw : Rd (fun b => b < w.heap.size) w A (u64s ws)) (hlw : ws.length = n) (hn : n ≤ 9223372036854775806) (hc : n ≤ c) (hwfw : ∀ x ∈ ws, 0 ≤ x ∧ x ≤ 18446744073709551615)
    (hr : Rd (fun b => b < w.heap.size) w B (dds l)) (hl : l.length = m) (hm : m ≤ 9223372036854775806) (hwfl : ∀ x ∈ l, x.wf) :
    Calls Try.prog 48 #[.slice A n c, .slice B m d] w (CkPost w ws l) := by
  have hrp := replay_ok A B ws l n c m d w hrw hlw hn hc hwfw hr hl hm hwfl
  clear hrw hlw hn hc hwfw hr hl hm hwfl
  go_enter Try.func48, Try.ntmps48
  go_upto_region 1 with fail
  go_wp2_with fail
  refine hrp.mono ?_
  rintro e w1 ⟨hb1, hcase⟩
  rcases hcase with ⟨h1, rfl⟩ | ⟨h1, h2, rfl⟩ | ⟨h1, h2, h3, b, g, W', hm, _, _, hcase⟩
  · have H := Lib.hid h1
    clear h1 hrp
    go_wp2_with fail
    go_ret2
    exact ⟨hb1, .inl ⟨H.out, rfl⟩⟩
  · have H := Lib.hid (And.intro h1 h2)
    clear h1 h2 hrp
    go_wp2_with fail
    go_ret2
    exact ⟨hb1, .inr (.inl ⟨H.out.1, H.out.2, rfl⟩)⟩
  · have H := Lib.hid (And.intro h1 (And.intro h2 h3))
    clear h1 h2 h3 hm hrp
    rcases hcase with ⟨k, q1, q2, q3, q4, rfl⟩ | ⟨q1, q2, rfl⟩
    · have Q := Lib.hid (And.intro q1 (And.intro q2 q3))
      clear q1 q2 q3 q4
      go_wp2_with fail
      go_ret2
      exact ⟨hb1, .inr (.inr ⟨H.out.1, H.out.2.1, H.out.2.2, .inl ⟨k, Q.out.1, Q.out.2.1, Q.out.2.2, rfl⟩⟩)⟩
    · have Q := Lib.hid q1
      clear q1 q2
      go_wp2_with fail
      go_ret2
      exact ⟨hb1, .inr (.inr ⟨H.out.1, H.out.2.1, H.out.2.2, .inr ⟨Q.out, rfl⟩⟩)⟩
def RyPost (w : World) (ws : List Int) (l : List Dd) (e : Ending) (w' : World) : Prop :=
  Below w.heap.size w w' ∧
  ((wrongF l ≠ 0 ∧ e = .returned (.tuple #[.slice none 0 0, .int .i64 (wrongF l)])) ∨
   (wrongF l = 0 ∧ (ws.length < 1 ∨ 65536 < ws.length) ∧ e = .returned (.tuple #[.slice none 0 0, .int .i64 2])) ∨
   (wrongF l = 0 ∧ 1 ≤ ws.length ∧ ws.length ≤ 65536 ∧
     ((∃ k : Nat, k < l.length ∧ fitB ws l k = true ∧ fitB ws l (k + 1) = false ∧ e = .returned (.tuple #[.slice none 0 0, .int .i64 10])) ∨
      (fitB ws l l.length = true ∧ ∃ base v, w.heap.size ≤ base ∧ w'.ownsRow base 30 1 v ws.length (u64s (rpW ws l)) ∧ e = .returned (.tuple #[v, .int .i64 0])))))
theorem words_all (b g : Nat) (W' : List Int) (n : Nat) (hl : W'.length = n) (w : World) (h : MemAt w b g n W') :
    Calls Try.prog 17 #[.pointer (some ⟨b, 0, none⟩), .int .i64 0, .int .i64 (n : Nat)] w (WordsPost w W') := by
  subst hl
  have h2 := mwords_ok b g _ W' 0 W'.length w h (Nat.zero_le _) (Nat.le_refl _)
  simpa using h2
set_option maxHeartbeats 1000000 in
theorem replays_ok (A B : Option Addr) (ws : List Int) (l : List Dd) (n c m d : Nat) (w : World)
    (hrw : Rd (fun b => b < w.heap.size) w A (u64s ws)) (hlw : ws.length = n) (hn : n ≤ 9223372036854775806) (hc : n ≤ c) (hwfw : ∀ x ∈ ws, 0 ≤ x ∧ x ≤ 18446744073709551615)
    (hr : Rd (fun b => b < w.heap.size) w B (dds l)) (hl : l.length = m) (hm : m ≤ 9223372036854775806) (hwfl : ∀ x ∈ l, x.wf) :
    Calls Try.prog 49 #[.slice A n c, .slice B m d] w (RyPost w ws l) := by
  have hrp := replay_ok A B ws l n c m d w hrw hlw hn hc hwfw hr hl hm hwfl
  subst hlw
  clear hrw hc hwfw hr hl hm hwfl
  go_enter Try.func49, Try.ntmps49
  go_wp2_with fail
  refine hrp.mono ?_
  rintro e w1 ⟨hb1, hcase⟩
  rcases hcase with ⟨h1, rfl⟩ | ⟨h1, h2, rfl⟩ | ⟨h1, h2, h3, b, g, W', hm, _, _, hcase⟩
  · have H := Lib.hid h1
    obtain ⟨E, hEE⟩ : ∃ E, wrongF l = E := ⟨_, rfl⟩
    rw [hEE] at h1 ⊢
    have d1 : (E != 0) = true := by rw [bne_iff_ne]; exact h1
    have HE := Lib.hid hEE
    clear h1 hrp hEE
    go_wp2_with fail
    go_ret2
    exact ⟨hb1, .inl ⟨H.out, by rw [HE.out]; rfl⟩⟩
  · have H := Lib.hid (And.intro h1 h2)
    clear h1 h2 hrp
    go_wp2_with fail
    go_ret2
    exact ⟨hb1, .inr (.inl ⟨H.out.1, H.out.2, rfl⟩)⟩
  · have H := Lib.hid (And.intro h1 (And.intro h2 h3))
    clear h1 h2 h3 hrp
    rcases hcase with ⟨k, q1, q2, q3, q4, rfl⟩ | ⟨q1, q2, rfl⟩
    · have Q := Lib.hid (And.intro q1 (And.intro q2 q3))
      have i1 : (0 : Int) ≤ k := Int.natCast_nonneg _
      have i2 : decide ((k : Int) ≥ 0) = true := decide_eq_true i1
      clear q1 q2 q3 q4 hm
      go_wp2_with fail
      go_ret2
      exact ⟨hb1, .inr (.inr ⟨H.out.1, H.out.2.1, H.out.2.2, .inl ⟨k, Q.out.1, Q.out.2.1, Q.out.2.2, rfl⟩⟩)⟩
    · have Q := Lib.hid q1
      subst q2
      have hw := words_all b g _ _ (rpW_len ws l) w1 hm
      clear q1 hm
      go_wp2_with (go_at_call 17; refine hw.mono ?_; rintro e w2 ⟨v, rfl, hown, hb2⟩)
      go_ret2
      rw [rpW_len] at hown
      exact ⟨hb1.trans (hb2.mono hb1.size), .inr (.inr ⟨H.out.1, H.out.2.1, H.out.2.2, .inr ⟨Q.out, _, _, hb1.size, hown, rfl⟩⟩)⟩
end Go.Proofs.Ytpndlggahdefcaa
