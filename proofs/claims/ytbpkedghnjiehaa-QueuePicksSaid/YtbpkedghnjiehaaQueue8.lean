/-
  Contracts of package queue, eighth part: wrong picks, nil and zero pickers, Copy.
-/
import Derived.Test.YtbpkedghnjiehaaQueue7
namespace Go.Proofs.Ytbpkedghnjiehaa
open Go.RowKit

theorem pnext_bad (b g c : Nat) (size : Int) (picks : Nat) (ag : List Int) (want : Int) (w : World) (h : PkAt w b g c size picks ag) (hw : want < 0 ∨ (ag.length : Int) ≤ want) :
    Calls Try.prog 27 #[.pointer (some ⟨b, 0, none⟩), .int .i64 want] w fun e w' => e = .returned (.tuple #[.int .i64 0, .int .i64 2]) ∧ w = w' := by
  have h2 := h.c2
  by_cases h1 : want < 0
  · have d1 : decide (want < 0) = true := decide_eq_true h1
    clear hw
    go_enter Try.func27, Try.ntmps27
    go_wp2_with (go_at_call 42; refine (pzero_ok b g c size picks ag _ h).mono ?_; rintro e w' ⟨rfl, rfl⟩)
    go_ret2
    exact ⟨rfl, rfl⟩
  · have d1 : decide (want < 0) = false := decide_eq_false h1
    have d2 : decide ((ag.length : Int) ≤ want) = true := decide_eq_true (by omega)
    clear hw
    go_enter Try.func27, Try.ntmps27
    go_wp2_with (go_at_call 42; refine (pzero_ok b g c size picks ag _ h).mono ?_; rintro e w' ⟨rfl, rfl⟩)
    go_ret2
    exact ⟨rfl, rfl⟩
/-- a nil picker, or a zero one -/
def NoPk (w : World) (p : Option Addr) : Prop := p = none ∨ ∃ b, p = some ⟨b, 0, none⟩ ∧ Blk w b 54 [.int .i64 0, .int .i64 0, .slice none 0 0]
theorem NoPk.below {w w' : World} {p : Option Addr} (h : NoPk w p) (hc : Below w.heap.size w w') : NoPk w' p := by
  rcases h with h | ⟨b, h, k⟩
  · exact .inl h
  · exact .inr ⟨b, h, k.keep (Ch.of_below hc (fun _ => False)) (fun e => e)⟩
theorem pzero_no (p : Option Addr) (w : World) (h : NoPk w p) : Calls Try.prog 42 #[.pointer p] w fun e w' => e = .returned (.bool true) ∧ w = w' := by
  rcases h with rfl | ⟨b, rfl, h⟩
  · exact pzero_nil w
  · have h2 := h.cell 2
    dsimp only [List.getElem?_cons_succ, List.getElem?_cons_zero] at h2
    go_enter Try.func42, Try.ntmps42
    go_wp2
    go_ret
    exact ⟨rfl, rfl⟩
theorem pnext_no (p : Option Addr) (want : Int) (w : World) (h : NoPk w p) : Calls Try.prog 27 #[.pointer p, .int .i64 want] w fun e w' => e = .returned (.tuple #[.int .i64 0, .int .i64 1]) ∧ w = w' := by
  go_enter Try.func27, Try.ntmps27
  go_wp2_with (go_at_call 42; refine (pzero_no p _ h).mono ?_; rintro e w' ⟨rfl, rfl⟩)
  go_ret2
  exact ⟨rfl, rfl⟩
theorem ppicks_no (p : Option Addr) (w : World) (h : NoPk w p) : Calls Try.prog 25 #[.pointer p] w fun e w' => e = .returned (.int .i64 0) ∧ w = w' := by
  go_enter Try.func25, Try.ntmps25
  go_wp2_with (go_at_call 42; refine (pzero_no p _ h).mono ?_; rintro e w' ⟨rfl, rfl⟩)
  go_ret
  exact ⟨rfl, rfl⟩
theorem page_no (p : Option Addr) (t : Int) (w : World) (h : NoPk w p) : Calls Try.prog 26 #[.pointer p, .int .i64 t] w fun e w' => e = .returned (.int .i64 0) ∧ w = w' := by
  go_enter Try.func26, Try.ntmps26
  go_wp2_with (go_at_call 42; refine (pzero_no p _ h).mono ?_; rintro e w' ⟨rfl, rfl⟩)
  go_ret
  exact ⟨rfl, rfl⟩
theorem pcopy_no (p : Option Addr) (w : World) (h : NoPk w p) : Calls Try.prog 30 #[.pointer p] w fun e w' => e = .returned (.pointer none) ∧ w = w' := by
  go_enter Try.func30, Try.ntmps30
  go_wp2_with (go_at_call 42; refine (pzero_no p _ h).mono ?_; rintro e w' ⟨rfl, rfl⟩)
  go_ret
  exact ⟨rfl, rfl⟩

/-! ### Copy -/
def ClonePost (w : World) (n : Nat) (xs : List Int) (e : Ending) (w' : World) : Prop := ∃ v, e = .returned v ∧ w'.ownsRow w.heap.size 3 1 v n (ints xs) ∧ Below w.heap.size w w'
theorem clone_any (ad : Addr) (xs : List Int) (n c : Nat) (w : World) (hr : Rd (fun _ => True) w (some ad) (ints xs)) (hl : xs.length = n) (hn : n ≤ 1000000) :
    Calls Try.prog 45 #[.slice (some ad) n c] w (ClonePost w n xs) := by
  subst hl
  obtain ⟨i0, hi0, hz0, hz1, hz2⟩ := info_parts intInfo
  have hq := fun W => Lib.run_eql_slice_nil (P := Try.prog) W 28 3 (some ad) xs.length c 0 0 Try.underlying28
  have hr1 := hr.keep ((Ch.refl (fun _ => False) w).alloc (.cells #[] 3)) (fun _ _ _ e => e)
  have hw1 : w.heap.size ≤ (w.alloc (.cells #[] 3)).heap.size := by simp
  go_enter Try.func45, Try.ntmps45
  go_wp2_with (at_builtin; refine wpList_append_rd _ rfl _ _ _ rfl w.heap.size 3 i0 _ 1 8 Try.underlying28 hi0 hz0 hz1 hz2 rfl (by omega) _ 0 [] rfl (own_new w _ _) (some ad) xs.length c (ints xs) rfl hr1 (fun e => by cases e) (by simp [ints]) (oneCell_ints _ _) (by unfold maxLen; omega) (by omega) hw1 ?_)
  intro v1 w1 hown1 hch hat
  go_wp2
  go_ret
  refine ⟨v1, rfl, by simpa using hown1, ?_⟩
  exact ((Below.refl _ _).alloc (Nat.le_refl _) _).trans (hch.below (fun j hj e => by have h : w.heap.size = j := (by simpa [Value.ownBlock] using e); omega) hw1)
theorem own_blk {w : World} {base : Nat} {v : Value} {xs : List Int} (ho : w.ownsRow base 3 1 v xs.length (ints xs)) (hlo : 1 ≤ xs.length) :
    ∃ g c, v = .slice (some ⟨g, 0, none⟩) xs.length c ∧ base ≤ g ∧ xs.length ≤ c ∧ c ≤ 9223372036854775807 ∧ ∃ sp, Blk w g 3 (ints xs ++ sp) := by
  rcases ho.2 with ⟨_, h0⟩ | ⟨g, cap, cur, rfl, hg, hc, h1, h2, h3, h4⟩
  · omega
  · have hB : Blk w g 3 cur.toList := by unfold Blk; simpa using hc
    refine ⟨g, cap, rfl, hg, h1, by unfold maxLen at h2; omega, cur.toList.drop (xs.length * 1), ?_⟩
    rw [← h4, List.take_append_drop]
    exact hB
def CloneP (w : World) (xs : List Int) (e : Ending) (w' : World) : Prop :=
  ∃ g c, e = .returned (.slice (some ⟨g, 0, none⟩) xs.length c) ∧ w.heap.size ≤ g ∧ xs.length ≤ c ∧ c ≤ 9223372036854775807 ∧ (∃ sp, Blk w' g 3 (ints xs ++ sp)) ∧ Below w.heap.size w w'
theorem clone_ok (ad : Addr) (xs : List Int) (c : Nat) (w : World) (hr : Rd (fun _ => True) w (some ad) (ints xs)) (hn : xs.length ≤ 1000000) (hlo : 1 ≤ xs.length) :
    Calls Try.prog 45 #[.slice (some ad) xs.length c] w (CloneP w xs) := by
  refine (clone_any ad xs xs.length c w hr rfl hn).mono ?_
  rintro e w' ⟨v, rfl, ho, hb⟩
  obtain ⟨g, c, rfl, h1, h2, h3, h4⟩ := own_blk ho hlo
  exact ⟨g, c, rfl, h1, h2, h3, h4, hb⟩
theorem PkAt.rd {w : World} {b g c : Nat} {size : Int} {picks : Nat} {ag : List Int} (h : PkAt w b g c size picks ag) : Rd (fun _ => True) w (some ⟨g, 0, none⟩) (ints ag) := by
  obtain ⟨sp, hr⟩ := h.row
  exact Rd.of_blk hr (List.prefix_append _ _) trivial
def CopyP (w : World) (size : Int) (picks : Nat) (ag : List Int) (e : Ending) (w' : World) : Prop :=
  ∃ b g c, e = .returned (.pointer (some ⟨b, 0, none⟩)) ∧ PkAt w' b g c size picks ag ∧ w.heap.size ≤ b ∧ w.heap.size ≤ g ∧ Below w.heap.size w w'
set_option maxHeartbeats 1000000 in
theorem pcopy_ok (b g c : Nat) (size : Int) (picks : Nat) (ag : List Int) (w : World) (h : PkAt w b g c size picks ag) :
    Calls Try.prog 30 #[.pointer (some ⟨b, 0, none⟩)] w (CopyP w size picks ag) := by
  have c0 := h.c0
  have c1 := h.c1
  have c2 := h.c2
  have hlo := h.lo
  have hhi := h.hi
  go_enter Try.func30, Try.ntmps30
  go_wp2_with (go_at_call 42; refine (pzero_ok b g c size picks ag _ h).mono ?_; rintro e w' ⟨rfl, rfl⟩)
  go_region_held3 (fun w' => w'.cell? ⟨b, 0, none⟩ = some (.int .i64 size) ∧ w'.cell? ⟨b, 1, none⟩ = some (.int .i64 picks) ∧ w'.cell? ⟨b, 2, none⟩ = some (.slice (some ⟨g, 0, none⟩) ag.length c)) (((try go_split_ands); ((repeat' apply And.intro) <;> first | (with_reducible assumption) | (exact ((Ch.refl (fun _ => False) _).alloc _).keeps (by assumption) (fun e => e)) | go_cell))) (first | (go_at_call 45; ((with_reducible refine (clone_ok ⟨g, 0, none⟩ ag c _ ?_ ?_ hlo).mono ?_); (focus (exact h.rd.drewN 1)); (focus (omega)); rintro e w1 ⟨g2, c3, rfl, hg2, hc2, hc3, hrow, hb⟩; have k0 := (Ch.of_below hb (fun _ => False)).keeps (p := ⟨b, 0, none⟩) (v := .int .i64 size) (by go_cell) (fun e => e); have k1 := (Ch.of_below hb (fun _ => False)).keeps (p := ⟨b, 1, none⟩) (v := .int .i64 picks) (by go_cell) (fun e => e); have k2 := (Ch.of_below hb (fun _ => False)).keeps (p := ⟨b, 2, none⟩) (v := .slice (some ⟨g, 0, none⟩) ag.length c) (by go_cell) (fun e => e))))
  all_goals
    go_wp2_with fail
    go_ret
    have hb1 : Below w.heap.size w w1 := Below.trans (by (repeat' (first | (with_reducible exact Below.refl _ _) | (with_reducible assumption) | (with_reducible refine Below.alloc ?_ ?_ _) | (with_reducible refine Below.drew ?_) | (with_reducible refine below_drewN ?_ _) | (with_reducible refine Below.setCell ?_ ?_ _) | (with_reducible refine Below.trans ?_ (Below.mono (by assumption) ?_)) | (first | go_size | (with_reducible exact Below.size (by assumption)) | (with_reducible exact Nat.le_trans (Below.size (by assumption)) (Below.size (by assumption))) | (refine Nat.le_trans (Below.size (by assumption)) ?_; go_size))))) (hb.mono (by simp))
    obtain ⟨sp, hrow⟩ := hrow
    have hN := Blk.new w1 54 [.int .i64 size, .int .i64 picks, .slice (some ⟨g2, 0, none⟩) ag.length c3]
    exact ⟨w1.heap.size, g2, c3, rfl, ⟨hN, ⟨sp, hrow.keep ((Ch.refl (fun _ => False) _).alloc _) (fun e => e)⟩, hlo, hhi, hc2, hc3, h.sz, h.agb⟩, hb1.size, hg2, by (repeat' (first | (with_reducible exact Below.refl _ _) | (with_reducible assumption) | (with_reducible refine Below.alloc ?_ ?_ _) | (with_reducible refine Below.drew ?_) | (with_reducible refine below_drewN ?_ _) | (with_reducible refine Below.setCell ?_ ?_ _) | (with_reducible refine Below.trans ?_ (Below.mono (by assumption) ?_)) | (first | go_size | (with_reducible exact Below.size (by assumption)) | (with_reducible exact Nat.le_trans (Below.size (by assumption)) (Below.size (by assumption))) | (refine Nat.le_trans (Below.size (by assumption)) ?_; go_size))))⟩
end Go.Proofs.Ytbpkedghnjiehaa
