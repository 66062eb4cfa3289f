/-
  The walk of QueueMakes: it returns true at every input.
-/
import Derived.Test.YtbpkedghnjiehaaK03b
import Derived.Test.YtbpkedghnjiehaaRQueue
namespace Go.Proofs.Ytbpkedghnjiehaa
open Go.RowKit
namespace QueueMakes
theorem wf_i64 {x : Int} (h : (Lit.int .i64 x).wf = true) : -9223372036854775808 ≤ x ∧ x ≤ 9223372036854775807 := by
  simp [Lit.wf, IntKind.min, IntKind.max, IntKind.signed, IntKind.bits] at h
  omega
theorem wf_u8 {x : Int} (h : (Lit.int .u8 x).wf = true) : 0 ≤ x ∧ x ≤ 255 := by
  simp [Lit.wf, IntKind.min, IntKind.max, IntKind.signed, IntKind.bits] at h
  omega
def OwnP (W : World) (base : Nat) (v : Value) (xs : List Int) : Prop := ∃ A c, v = .slice A xs.length c ∧ Rd (fun b => base ≤ b) W A (ints xs) ∧ xs.length ≤ c
theorem OwnP.of {W : World} {base n : Nat} {v : Value} {xs : List Int} (h : W.ownsRow base 3 1 v n (ints xs)) (hn : xs.length = n) : OwnP W base v xs := by
  subst hn
  obtain ⟨A, c, rfl, h1, _⟩ := own_slice h
  exact ⟨A, c, rfl, (Rd.of_own h).mono (fun _ _ h => h.1), h1⟩
set_option maxRecDepth 100000 in
set_option maxHeartbeats 4000000 in
theorem walk (n : Int) (wn : (Lit.int .i64 n).wf = true) (m : Int) (wm : (Lit.int .i64 m).wf = true) (A : Option Addr) (k c : Nat) (xs : List Int) (l : xs.length = k) (_mk : k ≤ c) (_b : c ≤ 9223372036854775807) (_z : A = none → c = 0)
    (w : World) (r : Rd (fun b => b < w.heap.size) w A (xs.map (Value.int .u8))) (y : ∀ x ∈ xs, (Lit.int .u8 x).wf = true) :
    Calls Try.prog 3 #[.int .i64 n, .int .i64 m, .slice A k c] w fun e w' => e = .returned (.bool true) ∧ Below w.heap.size w w' := by
  have hn := wf_i64 wn
  have hm := wf_i64 wm
  have hr : Rd (fun _ => True) w A (u8s xs) := r.mono (fun _ _ _ => trivial)
  have hwf : ∀ x ∈ xs, 0 ≤ x ∧ x ≤ 255 := fun x hx => wf_u8 (y x hx)
  have HL := Lib.hid l
  have HWF := Lib.hid hwf
  clear wn wm r y l hwf
  by_cases hg : 300 < k ∨ (300 < m ∧ m ≤ 100000)
  · by_cases h1 : 300 < m
    · have d1 : decide (300 < m) = true := decide_eq_true h1
      by_cases h2 : m ≤ 100000
      · have d2 : decide (m ≤ 100000) = true := decide_eq_true h2
        clear hg
        go_enter Try.func3, Try.ntmps3
        go_wp2_with (first | (go_at_call 10; refine (known_ok _).mono ?_; rintro e w' ⟨rfl, hkb⟩))
        go_ret
        exact ⟨rfl, by (repeat' (first | (with_reducible exact Below.refl _ _) | (with_reducible assumption) | (with_reducible refine Below.alloc ?_ ?_ _) | (with_reducible refine Below.drew ?_) | (with_reducible refine below_drewN ?_ _) | (with_reducible refine Below.setCell ?_ ?_ _) | (with_reducible refine Below.trans ?_ (Below.mono (by assumption) ?_)) | (first | go_size | (with_reducible exact Below.size (by assumption)) | (with_reducible exact Nat.le_trans (Below.size (by assumption)) (Below.size (by assumption))) | (refine Nat.le_trans (Below.size (by assumption)) ?_; go_size))))⟩
      · have d2 : decide (m ≤ 100000) = false := decide_eq_false h2
        have d3 : decide (300 < (k : Int)) = true := decide_eq_true (by omega)
        clear hg
        go_enter Try.func3, Try.ntmps3
        go_wp2_with (first | (go_at_call 10; refine (known_ok _).mono ?_; rintro e w' ⟨rfl, hkb⟩))
        go_ret
        exact ⟨rfl, by (repeat' (first | (with_reducible exact Below.refl _ _) | (with_reducible assumption) | (with_reducible refine Below.alloc ?_ ?_ _) | (with_reducible refine Below.drew ?_) | (with_reducible refine below_drewN ?_ _) | (with_reducible refine Below.setCell ?_ ?_ _) | (with_reducible refine Below.trans ?_ (Below.mono (by assumption) ?_)) | (first | go_size | (with_reducible exact Below.size (by assumption)) | (with_reducible exact Nat.le_trans (Below.size (by assumption)) (Below.size (by assumption))) | (refine Nat.le_trans (Below.size (by assumption)) ?_; go_size))))⟩
    · have d1 : decide (300 < m) = false := decide_eq_false h1
      have d3 : decide (300 < (k : Int)) = true := decide_eq_true (by omega)
      clear hg
      go_enter Try.func3, Try.ntmps3
      go_wp2_with (first | (go_at_call 10; refine (known_ok _).mono ?_; rintro e w' ⟨rfl, hkb⟩))
      go_ret
      exact ⟨rfl, by (repeat' (first | (with_reducible exact Below.refl _ _) | (with_reducible assumption) | (with_reducible refine Below.alloc ?_ ?_ _) | (with_reducible refine Below.drew ?_) | (with_reducible refine below_drewN ?_ _) | (with_reducible refine Below.setCell ?_ ?_ _) | (with_reducible refine Below.trans ?_ (Below.mono (by assumption) ?_)) | (first | go_size | (with_reducible exact Below.size (by assumption)) | (with_reducible exact Nat.le_trans (Below.size (by assumption)) (Below.size (by assumption))) | (refine Nat.le_trans (Below.size (by assumption)) ?_; go_size))))⟩
  have hk : k ≤ 300 := by omega
  have hmm : m ≤ 300 ∨ 100000 < m := by omega
  have d3 : decide (300 < (k : Int)) = false := decide_eq_false (by omega)
  have dd : (decide (300 < m) && decide (m ≤ 100000)) = false := by
    rcases hmm with h | h
    · rw [decide_eq_false (show ¬ (300 < m) by omega)]; rfl
    · rw [decide_eq_false (show ¬ (m ≤ 100000) by omega)]; simp
  clear hg
  by_cases ht : thrB n = false
  · have hf := fun W hR => lfrom_of n 2 [] none A 0 0 k c W (by have := from_bad A k c n W (.inl ht); rw [if_pos ht] at this; exact this) hR rfl (by omega) (by omega)
    have hrd := fun W hR => lround_of n m 2 [] none 0 0 W (by have := round_bad n m W (.inl ht); rw [if_pos (.inl ht)] at this; exact this) hR rfl (by omega) (by omega)
    have HF := Lib.hid hf
    have HRD := Lib.hid hrd
    clear hf hrd
    rcases hmm with h | h
    · have d1 : decide (300 < m) = false := decide_eq_false (by omega)
      clear dd
      go_enter Try.func3, Try.ntmps3
      go_wp2_with (first | (go_at_call 11; refine (rthr_no _ _ ht).mono ?_; rintro e w' ⟨rfl, rfl⟩) | (go_at_call 12; refine (HRD.out _ (Rd.nil _ _ _)).mono ?_; rintro e w1 ⟨rfl, hb1⟩) | (go_at_call 13; refine (HF.out _ (Rd.nil _ _ _)).mono ?_; rintro e w2 ⟨rfl, hb2⟩) | (go_at_call 10; refine (known_ok _).mono ?_; rintro e w' ⟨rfl, hkb⟩))
      go_ret
      exact ⟨rfl, by (repeat' (first | (with_reducible exact Below.refl _ _) | (with_reducible assumption) | (with_reducible refine Below.alloc ?_ ?_ _) | (with_reducible refine Below.drew ?_) | (with_reducible refine below_drewN ?_ _) | (with_reducible refine Below.setCell ?_ ?_ _) | (with_reducible refine Below.trans ?_ (Below.mono (by assumption) ?_)) | (first | go_size | (with_reducible exact Below.size (by assumption)) | (with_reducible exact Nat.le_trans (Below.size (by assumption)) (Below.size (by assumption))) | (refine Nat.le_trans (Below.size (by assumption)) ?_; go_size))))⟩
    · have d1 : decide (300 < m) = true := decide_eq_true (by omega)
      have d2 : decide (m ≤ 100000) = false := decide_eq_false (by omega)
      clear dd
      go_enter Try.func3, Try.ntmps3
      go_wp2_with (first | (go_at_call 11; refine (rthr_no _ _ ht).mono ?_; rintro e w' ⟨rfl, rfl⟩) | (go_at_call 12; refine (HRD.out _ (Rd.nil _ _ _)).mono ?_; rintro e w1 ⟨rfl, hb1⟩) | (go_at_call 13; refine (HF.out _ (Rd.nil _ _ _)).mono ?_; rintro e w2 ⟨rfl, hb2⟩) | (go_at_call 10; refine (known_ok _).mono ?_; rintro e w' ⟨rfl, hkb⟩))
      go_ret
      exact ⟨rfl, by (repeat' (first | (with_reducible exact Below.refl _ _) | (with_reducible assumption) | (with_reducible refine Below.alloc ?_ ?_ _) | (with_reducible refine Below.drew ?_) | (with_reducible refine below_drewN ?_ _) | (with_reducible refine Below.setCell ?_ ?_ _) | (with_reducible refine Below.trans ?_ (Below.mono (by assumption) ?_)) | (first | go_size | (with_reducible exact Below.size (by assumption)) | (with_reducible exact Nat.le_trans (Below.size (by assumption)) (Below.size (by assumption))) | (refine Nat.le_trans (Below.size (by assumption)) ?_; go_size))))⟩
  have ht : thrB n = true := by cases h : thrB n; exact absurd h ht; rfl
  have hp := thr_pos ht
  obtain ⟨i0, hi0, hz0, hz1, hz2⟩ := info_parts intInfo
  have hf := fun W A' c' hR hR2 hc => lfrom_of n 0 (fromL n xs) A' A k c' k c W (from_ok A xs k c n W hR HL.out HWF.out ht (by omega)) hR2 (by rw [fromL_length]; exact HL.out) (by omega) hc
  have HF := Lib.hid hf
  clear hf
  clear dd
  rcases hmm with hle | h
  · have d1 : decide (300 < m) = false := decide_eq_false (by omega)
    by_cases h : m < 0
    · have d4 : decide (m < 0) = true := decide_eq_true h
      go_enter Try.func3, Try.ntmps3
      go_wp2_with (go_at_call 11; refine (rthr_yes _ _ ht).mono ?_; rintro e w' ⟨rfl, rfl⟩)
      go_loopw [7, 40] (fun v7 v40 wr => ∃ i : Nat, i ≤ k ∧ v40 = .int .i64 i ∧ wr.ownsRow w.heap.size 3 1 v7 i (ints (fromL n (xs.take i))) ∧ Below w.heap.size w wr) (fun _ v _ => k - (intOf v).toNat)
      case atStart => exact ⟨0, Nat.zero_le _, rfl, own_none _ _ _ _, Below.refl _ _⟩
      case round =>
        obtain ⟨i, hi, rfl, hown, hb⟩ := hrel
        by_cases hlt : i < k
        · obtain ⟨b, o, rfl, _, hbs, hcell⟩ := rd_u8 (hr.keep (Ch.of_below hb (fun _ => False)) (fun _ _ _ e => e)) (show i < xs.length by rw [HL.out]; exact hlt)
          have hxw := HWF.out _ (getD_mem (show i < xs.length by rw [HL.out]; exact hlt))
          obtain ⟨x, hx⟩ : ∃ x, x = xs.getD i 0 := ⟨_, rfl⟩
          rw [← hx] at hcell hxw
          have HX := Lib.hid hx
          have hbr := Below.refl wr.heap.size wr
          have hbz := hb.size
          have HR := Lib.hid (fromL_snoc n xs i (by rw [HL.out]; exact hlt))
          clear hx
          go_wp2_with ((at_builtin; refine wpList_append_rd _ rfl _ _ _ rfl w.heap.size 3 i0 _ 1 8 Try.underlying28 hi0 hz0 hz1 hz2 rfl (by omega) _ _ _ rfl (own_keep (own_keep hown (Ch.of_below hbr (fun _ => False)) (fun _ _ _ e => e)) ((Ch.refl (fun _ => False) _).alloc _) (fun _ _ _ e => e)) (some ⟨_, 0, none⟩) 1 1 [.int .i64 (x % n)] rfl (Rd.of_blk (G := fun _ => True) (Blk.new _ _ [.int .i64 (x % n)]) (List.prefix_refl _) trivial) (fun h => by cases h) rfl (by simp [Value.oneCell']) (by unfold maxLen; omega) (by omega) (by have := Below.size hbr; simp; omega) ?_))
          intro v3 w3 hown3 hch3 hat3
          have hb3 : Below w.heap.size w w3 := (hb.alloc hb.size _).trans (hch3.below (fun j hj e => ownBlock_ge hown e) (by have := hb.size; simp; omega))
          have hown4 : w3.ownsRow w.heap.size 3 1 v3 (i + 1) (ints (fromL n (xs.take (i + 1)))) := by rw [HR.out, ← HX.out]; simpa [ints] using hown3
          clear hch3 hat3 hown hown3
          go_wp2
          go_roundw
          case rel => exact ⟨i + 1, by omega, by go_num, hown4, hb3⟩
          case measure => simp [intOf]; omega
        · obtain rfl : k = i := by omega
          rw [List.take_of_length_le (by rw [HL.out]; exact Nat.le_refl _)] at hown
          obtain ⟨A7, c7, rfl, hc7, _⟩ := own_slice hown
          have hA7 : Rd (fun b => w.heap.size ≤ b) wr A7 (ints (fromL n xs)) := (Rd.of_own hown).mono (fun _ _ h => h.1)
          clear hown
          have hcall := HF.out wr A7 c7 (hr.keep (Ch.of_below hb (fun _ => False)) (fun _ _ _ e => e)) (hA7.mono (fun _ _ _ => trivial)) hc7
          go_wp2_with fail
          refine hcall.mono ?_
          rintro e w2 ⟨rfl, hb2⟩
          have hB2 : Below w.heap.size w w2 := hb.trans (hb2.mono hb.size)
          clear hcall hA7 hb hb2
          have hrd := fun W hR => lround_of n m 2 [] none 0 0 W (by have := round_bad n m W (.inr (.inl h)); rw [if_pos (.inr h)] at this; exact this) hR rfl (by omega) (by omega)
          have HRD := Lib.hid hrd
          clear hrd
          go_wp2_with (first | (go_at_call 12; refine (HRD.out _ (Rd.nil _ _ _)).mono ?_; rintro e w3 ⟨rfl, hb3⟩) | (go_at_call 10; refine (known_ok _).mono ?_; rintro e w' ⟨rfl, hkb⟩))
          go_ret
          exact ⟨rfl, by (repeat' (first | (with_reducible exact Below.refl _ _) | (with_reducible assumption) | (with_reducible refine Below.alloc ?_ ?_ _) | (with_reducible refine Below.drew ?_) | (with_reducible refine below_drewN ?_ _) | (with_reducible refine Below.setCell ?_ ?_ _) | (with_reducible refine Below.trans ?_ (Below.mono (by assumption) ?_)) | (first | go_size | (with_reducible exact Below.size (by assumption)) | (with_reducible exact Nat.le_trans (Below.size (by assumption)) (Below.size (by assumption))) | (refine Nat.le_trans (Below.size (by assumption)) ?_; go_size))))⟩
    · obtain ⟨M, rfl⟩ : ∃ M : Nat, m = M := ⟨m.toNat, by omega⟩
      have d4 : decide ((M : Int) < 0) = false := decide_eq_false (by omega)
      have d5 : decide (100000 < (M : Int)) = false := decide_eq_false (by omega)
      go_enter Try.func3, Try.ntmps3
      go_wp2_with (go_at_call 11; refine (rthr_yes _ _ ht).mono ?_; rintro e w' ⟨rfl, rfl⟩)
      go_loopw [7, 40] (fun v7 v40 wr => ∃ i : Nat, i ≤ k ∧ v40 = .int .i64 i ∧ wr.ownsRow w.heap.size 3 1 v7 i (ints (fromL n (xs.take i))) ∧ Below w.heap.size w wr) (fun _ v _ => k - (intOf v).toNat)
      case atStart => exact ⟨0, Nat.zero_le _, rfl, own_none _ _ _ _, Below.refl _ _⟩
      case round =>
        obtain ⟨i, hi, rfl, hown, hb⟩ := hrel
        by_cases hlt : i < k
        · obtain ⟨b, o, rfl, _, hbs, hcell⟩ := rd_u8 (hr.keep (Ch.of_below hb (fun _ => False)) (fun _ _ _ e => e)) (show i < xs.length by rw [HL.out]; exact hlt)
          have hxw := HWF.out _ (getD_mem (show i < xs.length by rw [HL.out]; exact hlt))
          obtain ⟨x, hx⟩ : ∃ x, x = xs.getD i 0 := ⟨_, rfl⟩
          rw [← hx] at hcell hxw
          have HX := Lib.hid hx
          have hbr := Below.refl wr.heap.size wr
          have hbz := hb.size
          have HR := Lib.hid (fromL_snoc n xs i (by rw [HL.out]; exact hlt))
          clear hx
          go_wp2_with ((at_builtin; refine wpList_append_rd _ rfl _ _ _ rfl w.heap.size 3 i0 _ 1 8 Try.underlying28 hi0 hz0 hz1 hz2 rfl (by omega) _ _ _ rfl (own_keep (own_keep hown (Ch.of_below hbr (fun _ => False)) (fun _ _ _ e => e)) ((Ch.refl (fun _ => False) _).alloc _) (fun _ _ _ e => e)) (some ⟨_, 0, none⟩) 1 1 [.int .i64 (x % n)] rfl (Rd.of_blk (G := fun _ => True) (Blk.new _ _ [.int .i64 (x % n)]) (List.prefix_refl _) trivial) (fun h => by cases h) rfl (by simp [Value.oneCell']) (by unfold maxLen; omega) (by omega) (by have := Below.size hbr; simp; omega) ?_))
          intro v3 w3 hown3 hch3 hat3
          have hb3 : Below w.heap.size w w3 := (hb.alloc hb.size _).trans (hch3.below (fun j hj e => ownBlock_ge hown e) (by have := hb.size; simp; omega))
          have hown4 : w3.ownsRow w.heap.size 3 1 v3 (i + 1) (ints (fromL n (xs.take (i + 1)))) := by rw [HR.out, ← HX.out]; simpa [ints] using hown3
          clear hch3 hat3 hown hown3
          go_wp2
          go_roundw
          case rel => exact ⟨i + 1, by omega, by go_num, hown4, hb3⟩
          case measure => simp [intOf]; omega
        · obtain rfl : k = i := by omega
          rw [List.take_of_length_le (by rw [HL.out]; exact Nat.le_refl _)] at hown
          obtain ⟨A7, c7, rfl, hc7, _⟩ := own_slice hown
          have hA7 : Rd (fun b => w.heap.size ≤ b) wr A7 (ints (fromL n xs)) := (Rd.of_own hown).mono (fun _ _ h => h.1)
          clear hown
          have hcall := HF.out wr A7 c7 (hr.keep (Ch.of_below hb (fun _ => False)) (fun _ _ _ e => e)) (hA7.mono (fun _ _ _ => trivial)) hc7
          go_wp2_with fail
          refine hcall.mono ?_
          rintro e w2 ⟨rfl, hb2⟩
          have hB2 : Below w.heap.size w w2 := hb.trans (hb2.mono hb.size)
          clear hcall hA7 hb hb2
          have hrd := fun W A' c' hR hc => lround_of n (M : Int) 0 (roundL n M) A' M c' W (round_ok n M W ht (by omega)) hR (roundL_length n M) (by omega) hc
          have HRD := Lib.hid hrd
          clear hrd
          go_wp2_with fail
          go_loopw [10, 11] (fun v10 v11 wq => ∃ j : Nat, j ≤ M ∧ v11 = .int .i64 j ∧ wq.ownsRow w.heap.size 3 1 v10 j (ints (roundL n j)) ∧ Below w.heap.size w wq) (fun _ v _ => M - (intOf v).toNat)
          case atStart => exact ⟨0, Nat.zero_le _, rfl, own_none _ _ _ _, hB2⟩
          case round =>
            clear hB2
            obtain ⟨j, hj, rfl, hown, hb⟩ := hrel
            by_cases hlt : j < M
            · have hbr := Below.refl wr.heap.size wr
              have hbz := hb.size
              have HR := Lib.hid (roundL_succ n j)
              go_wp2_with ((at_builtin; refine wpList_append_rd _ rfl _ _ _ rfl w.heap.size 3 i0 _ 1 8 Try.underlying28 hi0 hz0 hz1 hz2 rfl (by omega) _ _ _ rfl (own_keep (own_keep hown (Ch.of_below hbr (fun _ => False)) (fun _ _ _ e => e)) ((Ch.refl (fun _ => False) _).alloc _) (fun _ _ _ e => e)) (some ⟨_, 0, none⟩) 1 1 [.int .i64 ((j : Int) % n)] rfl (Rd.of_blk (G := fun _ => True) (Blk.new _ _ [.int .i64 ((j : Int) % n)]) (List.prefix_refl _) trivial) (fun h => by cases h) rfl (by simp [Value.oneCell']) (by unfold maxLen; omega) (by omega) (by have := Below.size hbr; simp; omega) ?_))
              intro v3 w3 hown3 hch3 hat3
              have hb3 : Below w.heap.size w w3 := (hb.alloc hb.size _).trans (hch3.below (fun j hj e => ownBlock_ge hown e) (by have := hb.size; simp; omega))
              have hown4 : w3.ownsRow w.heap.size 3 1 v3 (j + 1) (ints (roundL n (j + 1))) := by rw [HR.out]; simpa [ints] using hown3
              clear hch3 hat3 hown hown3
              go_wp2
              go_roundw
              case rel => exact ⟨j + 1, by omega, by go_num, hown4, hb3⟩
              case measure => simp [intOf]; omega
            · obtain rfl : M = j := by omega
              obtain ⟨A9, c9, rfl, hc9, _⟩ := own_slice hown
              have hA9 : Rd (fun b => w.heap.size ≤ b) wr A9 (ints (roundL n M)) := (Rd.of_own hown).mono (fun _ _ h => h.1)
              clear hown
              have hcall := HRD.out wr A9 c9 (hA9.mono (fun _ _ _ => trivial)) hc9
              go_wp2_with fail
              refine hcall.mono ?_
              rintro e w3 ⟨rfl, hb3⟩
              go_wp2_with (first | (go_at_call 10; refine (known_ok _).mono ?_; rintro e w' ⟨rfl, hkb⟩))
              go_ret
              exact ⟨rfl, by (repeat' (first | (with_reducible exact Below.refl _ _) | (with_reducible assumption) | (with_reducible refine Below.alloc ?_ ?_ _) | (with_reducible refine Below.drew ?_) | (with_reducible refine below_drewN ?_ _) | (with_reducible refine Below.setCell ?_ ?_ _) | (with_reducible refine Below.trans ?_ (Below.mono (by assumption) ?_)) | (first | go_size | (with_reducible exact Below.size (by assumption)) | (with_reducible exact Nat.le_trans (Below.size (by assumption)) (Below.size (by assumption))) | (refine Nat.le_trans (Below.size (by assumption)) ?_; go_size))))⟩
  · have d1 : decide (300 < m) = true := decide_eq_true (by omega)
    have d2 : decide (m ≤ 100000) = false := decide_eq_false (by omega)
    have d4 : decide (m < 0) = false := decide_eq_false (by omega)
    have d5 : decide (100000 < m) = true := decide_eq_true (by omega)
    go_enter Try.func3, Try.ntmps3
    go_wp2_with (go_at_call 11; refine (rthr_yes _ _ ht).mono ?_; rintro e w' ⟨rfl, rfl⟩)
    go_loopw [7, 40] (fun v7 v40 wr => ∃ i : Nat, i ≤ k ∧ v40 = .int .i64 i ∧ wr.ownsRow w.heap.size 3 1 v7 i (ints (fromL n (xs.take i))) ∧ Below w.heap.size w wr) (fun _ v _ => k - (intOf v).toNat)
    case atStart => exact ⟨0, Nat.zero_le _, rfl, own_none _ _ _ _, Below.refl _ _⟩
    case round =>
      obtain ⟨i, hi, rfl, hown, hb⟩ := hrel
      by_cases hlt : i < k
      · obtain ⟨b, o, rfl, _, hbs, hcell⟩ := rd_u8 (hr.keep (Ch.of_below hb (fun _ => False)) (fun _ _ _ e => e)) (show i < xs.length by rw [HL.out]; exact hlt)
        have hxw := HWF.out _ (getD_mem (show i < xs.length by rw [HL.out]; exact hlt))
        obtain ⟨x, hx⟩ : ∃ x, x = xs.getD i 0 := ⟨_, rfl⟩
        rw [← hx] at hcell hxw
        have HX := Lib.hid hx
        have hbr := Below.refl wr.heap.size wr
        have hbz := hb.size
        have HR := Lib.hid (fromL_snoc n xs i (by rw [HL.out]; exact hlt))
        clear hx
        go_wp2_with ((at_builtin; refine wpList_append_rd _ rfl _ _ _ rfl w.heap.size 3 i0 _ 1 8 Try.underlying28 hi0 hz0 hz1 hz2 rfl (by omega) _ _ _ rfl (own_keep (own_keep hown (Ch.of_below hbr (fun _ => False)) (fun _ _ _ e => e)) ((Ch.refl (fun _ => False) _).alloc _) (fun _ _ _ e => e)) (some ⟨_, 0, none⟩) 1 1 [.int .i64 (x % n)] rfl (Rd.of_blk (G := fun _ => True) (Blk.new _ _ [.int .i64 (x % n)]) (List.prefix_refl _) trivial) (fun h => by cases h) rfl (by simp [Value.oneCell']) (by unfold maxLen; omega) (by omega) (by have := Below.size hbr; simp; omega) ?_))
        intro v3 w3 hown3 hch3 hat3
        have hb3 : Below w.heap.size w w3 := (hb.alloc hb.size _).trans (hch3.below (fun j hj e => ownBlock_ge hown e) (by have := hb.size; simp; omega))
        have hown4 : w3.ownsRow w.heap.size 3 1 v3 (i + 1) (ints (fromL n (xs.take (i + 1)))) := by rw [HR.out, ← HX.out]; simpa [ints] using hown3
        clear hch3 hat3 hown hown3
        go_wp2
        go_roundw
        case rel => exact ⟨i + 1, by omega, by go_num, hown4, hb3⟩
        case measure => simp [intOf]; omega
      · obtain rfl : k = i := by omega
        rw [List.take_of_length_le (by rw [HL.out]; exact Nat.le_refl _)] at hown
        obtain ⟨A7, c7, rfl, hc7, _⟩ := own_slice hown
        have hA7 : Rd (fun b => w.heap.size ≤ b) wr A7 (ints (fromL n xs)) := (Rd.of_own hown).mono (fun _ _ h => h.1)
        clear hown
        have hcall := HF.out wr A7 c7 (hr.keep (Ch.of_below hb (fun _ => False)) (fun _ _ _ e => e)) (hA7.mono (fun _ _ _ => trivial)) hc7
        go_wp2_with fail
        refine hcall.mono ?_
        rintro e w2 ⟨rfl, hb2⟩
        have hB2 : Below w.heap.size w w2 := hb.trans (hb2.mono hb.size)
        clear hcall hA7 hb hb2
        have hrd := fun W hR => lround_of n m 5 [] none 0 0 W (by have := round_bad n m W (.inr (.inr h)); rw [if_neg (by rintro (h1 | h1); rw [ht] at h1; cases h1; omega)] at this; exact this) hR rfl (by omega) (by omega)
        have HRD := Lib.hid hrd
        clear hrd
        go_wp2_with (first | (go_at_call 12; refine (HRD.out _ (Rd.nil _ _ _)).mono ?_; rintro e w3 ⟨rfl, hb3⟩) | (go_at_call 10; refine (known_ok _).mono ?_; rintro e w' ⟨rfl, hkb⟩))
        go_ret
        exact ⟨rfl, by (repeat' (first | (with_reducible exact Below.refl _ _) | (with_reducible assumption) | (with_reducible refine Below.alloc ?_ ?_ _) | (with_reducible refine Below.drew ?_) | (with_reducible refine below_drewN ?_ _) | (with_reducible refine Below.setCell ?_ ?_ _) | (with_reducible refine Below.trans ?_ (Below.mono (by assumption) ?_)) | (first | go_size | (with_reducible exact Below.size (by assumption)) | (with_reducible exact Nat.le_trans (Below.size (by assumption)) (Below.size (by assumption))) | (refine Nat.le_trans (Below.size (by assumption)) ?_; go_size))))⟩
end QueueMakes
end Go.Proofs.Ytbpkedghnjiehaa
