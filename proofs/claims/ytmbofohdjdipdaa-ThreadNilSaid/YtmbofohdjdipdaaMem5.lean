/-
  Contracts of package mem, fifth part: slices.Clone, Words, Copy, Same.
-/
import Derived.Test.YtmbofohdjdipdaaMem4
namespace Go.Proofs.Ytmbofohdjdipdaa
open Go.RowKit

def ClonePost (w : World) (n : Nat) (xs : List Int) (e : Ending) (w' : World) : Prop := ∃ v, e = .returned v ∧ w'.ownsRow w.heap.size 33 1 v n (u64s xs) ∧ Below w.heap.size w w'

theorem clone_any (A : Option Addr) (xs : List Int) (n c : Nat) (w : World) (hr : Rd (fun _ => True) w A (u64s xs)) (hA : A = none → c = 0) (hl : xs.length = n) (hn : n ≤ 1000000) :
    Calls Try.prog 77 #[.slice A n c] w (ClonePost w n xs) := by
  subst hl
  obtain ⟨i0, hi0, hz0, hz1, hz2⟩ := info_parts u64Info
  have hq := fun W => Lib.run_eql_slice_nil (P := Try.prog) W 22 33 A xs.length c 0 0 Try.underlying22
  cases A with
  | none =>
    have hx : xs = [] := by
      apply Classical.byContradiction
      intro hne
      obtain ⟨_, _, e, _⟩ := hr (by simpa [u64s] using hne)
      cases e
    subst hx
    clear hA hq
    have hq := fun W => Lib.run_eql_slice_nil (P := Try.prog) W 22 33 none 0 c 0 0 Try.underlying22
    simp only [List.length_nil]
    go_enter Try.func77, Try.ntmps77
    go_wp2
    go_ret
    exact ⟨_, rfl, own_none _ _ _ _, Below.refl _ _⟩
  | some ad =>
    have hr1 := hr.keep ((Ch.refl (fun _ => False) w).alloc (.cells #[] 33)) (fun _ _ _ e => e)
    have hw1 : w.heap.size ≤ (w.alloc (.cells #[] 33)).heap.size := by simp
    go_enter Try.func77, Try.ntmps77
    go_wp2_with (at_builtin; refine wpList_append_rd _ rfl _ _ _ rfl w.heap.size 33 i0 _ 1 8 Try.underlying22 hi0 hz0 hz1 hz2 rfl (by omega) _ 0 [] rfl (own_new w _ _) (some ad) xs.length c (u64s xs) rfl hr1 hA (by simp [u64s]) (oneCell_ints _ _) (by unfold maxLen; omega) (by omega) hw1 ?_)
    intro v1 w1 hown1 hch hat
    go_wp2
    go_ret
    refine ⟨v1, rfl, by simpa using hown1, ?_⟩
    exact ((Below.refl _ _).alloc (Nat.le_refl _) _).trans (hch.below (fun j hj e => by have h : w.heap.size = j := (by simpa [Value.ownBlock] using e); omega) hw1)


/-- some words of an arena, as a slice reads them -/
theorem MemAt.part {w : World} {b g c : Nat} {ws : List Int} (h : MemAt w b g c ws) (f t : Nat) (ht : t ≤ ws.length) : Rd (fun _ => True) w (some ⟨g, f, none⟩) (u64s ((ws.drop f).take (t - f))) := fun _ => by
  refine ⟨g, f, rfl, trivial, h.lt.2, fun j v hv => ?_⟩
  have hj : j < ((ws.drop f).take (t - f)).length := by
    have := List.getElem?_eq_some_iff.1 hv
    obtain ⟨h1, _⟩ := this
    simpa [u64s] using h1
  rw [u64s_at _ j hj] at hv
  have hj2 : f + j < ws.length := by simp at hj; omega
  rw [h.word hj2, ← hv]
  have hjt : j < t - f := by simp at hj; omega
  congr 2
  simp [List.getD, hjt]

def WordsPost (w : World) (xs : List Int) (e : Ending) (w' : World) : Prop :=
  ∃ v, e = .returned (.tuple #[v, .int .i64 0]) ∧ w'.ownsRow w.heap.size 33 1 v xs.length (u64s xs) ∧ Below w.heap.size w w'
set_option maxHeartbeats 400000 in
theorem mwords_ok (b g c : Nat) (ws : List Int) (f t : Nat) (w : World) (h : MemAt w b g c ws) (hft : f ≤ t) (ht : t ≤ ws.length) :
    Calls Try.prog 46 #[.pointer (some ⟨b, 0, none⟩), .int .i64 f, .int .i64 t] w (WordsPost w ((ws.drop f).take (t - f))) := by
  have hs := h.slice
  have hm0 := h
  have hcap := h.cap
  have hcm := h.capm
  have hhi := h.hi
  have hlen : ((ws.drop f).take (t - f)).length = t - f := by simp; omega
  have HL := Lib.hid hlen
  clear hlen
  have i1 : (0 : Int) ≤ f := Int.natCast_nonneg _
  have i2 : (f : Int) ≤ t := by omega
  have i3 : (t : Int) ≤ ws.length := by omega
  have i4 : (t : Int) ≤ c := by omega
  have i5 : t ≤ c := by omega
  have i6 : (f : Int) ≤ c := by omega
  have d1 : decide ((f : Int) < 0) = false := decide_eq_false (by omega)
  have d2 : decide ((t : Int) < f) = false := decide_eq_false (by omega)
  have d3 : decide ((ws.length : Int) < t) = false := decide_eq_false (by omega)
  go_enter Try.func46, Try.ntmps46
  go_wp2_with (go_at_call 76; refine (mzero_ok b g c ws _ (h.below (by (repeat' (first | (with_reducible exact Below.refl _ _) | (with_reducible assumption) | (with_reducible refine Below.alloc ?_ ?_ _) | (with_reducible refine Below.drew ?_) | (with_reducible refine below_drewN ?_ _) | (with_reducible refine Below.setCell ?_ ?_ _) | (with_reducible refine Below.trans ?_ (Below.mono (by assumption) ?_)) | (first | go_size | (with_reducible exact Below.size (by assumption)) | (with_reducible exact Nat.le_trans (Below.size (by assumption)) (Below.size (by assumption))) | (refine Nat.le_trans (Below.size (by assumption)) ?_; go_size))))))).mono ?_; rintro e w' ⟨rfl, rfl⟩)
  · refine (clone_any _ ((ws.drop f).take (t - f)) _ _ _ (by rw [show t - f = 0 by omega]; exact Rd.nil _ _ _) (fun e => by cases e) HL.out (by omega)).mono ?_
    rintro e w1 ⟨v, rfl, hv, hb⟩
    go_wp2
    go_ret2
    exact ⟨v, rfl, by rw [HL.out]; exact hv, hb⟩
  · refine (clone_any _ ((ws.drop f).take (t - f)) _ _ _ (hm0.part f t ht) (fun e => by cases e) HL.out (by omega)).mono ?_
    rintro e w1 ⟨v, rfl, hv, hb⟩
    go_wp2
    go_ret2
    exact ⟨v, rfl, by rw [HL.out]; exact hv, hb⟩

theorem quiet_any {P : Program} {f : FuncId} {args : Array Value} {w : World} {n : Nat} {v : Value}
    (h : Calls P f args (w.drewN n) fun e w' => e = .returned v ∧ ∃ q, w' = (w.drewN n).drewN q) : Calls P f args (w.drewN n) fun e w'' => e = .returned v ∧ ∃ m, w'' = w.drewN m :=
  h.mono fun _ _ ⟨he, q, hq⟩ => ⟨he, n + q, by rw [hq, World.drewN_drewN]⟩
theorem mwords_bad (b g c : Nat) (ws : List Int) (f t : Int) (w : World) (h : MemAt w b g c ws) (hft : f < 0 ∨ t < f ∨ (ws.length : Int) < t) :
    Calls Try.prog 46 #[.pointer (some ⟨b, 0, none⟩), .int .i64 f, .int .i64 t] w fun e w' => e = .returned (.tuple #[.slice none 0 0, .int .i64 3]) ∧ w = w' := by
  have hs := h.slice
  by_cases h1 : f < 0
  · go_enter Try.func46, Try.ntmps46
    go_wp2_with (go_at_call 76; refine (mzero_ok b g c ws _ (h.below (by (repeat' (first | (with_reducible exact Below.refl _ _) | (with_reducible assumption) | (with_reducible refine Below.alloc ?_ ?_ _) | (with_reducible refine Below.drew ?_) | (with_reducible refine below_drewN ?_ _) | (with_reducible refine Below.setCell ?_ ?_ _) | (with_reducible refine Below.trans ?_ (Below.mono (by assumption) ?_)) | (first | go_size | (with_reducible exact Below.size (by assumption)) | (with_reducible exact Nat.le_trans (Below.size (by assumption)) (Below.size (by assumption))) | (refine Nat.le_trans (Below.size (by assumption)) ?_; go_size))))))).mono ?_; rintro e w' ⟨rfl, rfl⟩)
    go_ret2
    exact ⟨rfl, rfl⟩
  · by_cases h2 : t < f
    · go_enter Try.func46, Try.ntmps46
      go_wp2_with (go_at_call 76; refine (mzero_ok b g c ws _ (h.below (by (repeat' (first | (with_reducible exact Below.refl _ _) | (with_reducible assumption) | (with_reducible refine Below.alloc ?_ ?_ _) | (with_reducible refine Below.drew ?_) | (with_reducible refine below_drewN ?_ _) | (with_reducible refine Below.setCell ?_ ?_ _) | (with_reducible refine Below.trans ?_ (Below.mono (by assumption) ?_)) | (first | go_size | (with_reducible exact Below.size (by assumption)) | (with_reducible exact Nat.le_trans (Below.size (by assumption)) (Below.size (by assumption))) | (refine Nat.le_trans (Below.size (by assumption)) ?_; go_size))))))).mono ?_; rintro e w' ⟨rfl, rfl⟩)
      go_ret2
      exact ⟨rfl, rfl⟩
    · have h3 : (ws.length : Int) < t := by omega
      go_enter Try.func46, Try.ntmps46
      go_wp2_with (go_at_call 76; refine (mzero_ok b g c ws _ (h.below (by (repeat' (first | (with_reducible exact Below.refl _ _) | (with_reducible assumption) | (with_reducible refine Below.alloc ?_ ?_ _) | (with_reducible refine Below.drew ?_) | (with_reducible refine below_drewN ?_ _) | (with_reducible refine Below.setCell ?_ ?_ _) | (with_reducible refine Below.trans ?_ (Below.mono (by assumption) ?_)) | (first | go_size | (with_reducible exact Below.size (by assumption)) | (with_reducible exact Nat.le_trans (Below.size (by assumption)) (Below.size (by assumption))) | (refine Nat.le_trans (Below.size (by assumption)) ?_; go_size))))))).mono ?_; rintro e w' ⟨rfl, rfl⟩)
      go_ret2
      exact ⟨rfl, rfl⟩

theorem MemAt.new {w w1 : World} {v : Value} {ws : List Int} (ho : w1.ownsRow w.heap.size 33 1 v ws.length (u64s ws)) (hlo : 1 ≤ ws.length) (hhi : ws.length ≤ 65536) (hwf : ∀ x ∈ ws, 0 ≤ x ∧ x ≤ 18446744073709551615) :
    ∃ g c, w.heap.size ≤ g ∧ v = .slice (some ⟨g, 0, none⟩) ws.length c ∧ MemAt (w1.alloc (.cells #[v] 158)) w1.heap.size g c ws := by
  rcases ho.2 with ⟨_, h0⟩ | ⟨g, cap, cur, rfl, hg, hc, h1, h2, h3, h4⟩
  · omega
  · have hB : Blk w1 g 33 cur.toList := by unfold Blk; simpa using hc
    refine ⟨g, cap, hg, rfl, Blk.new w1 _ [_], ⟨cur.toList.drop (ws.length * 1), ?_⟩, hlo, hhi, h1, by unfold maxLen at h2; omega, hwf⟩
    rw [← h4, List.take_append_drop]
    exact hB.keep ((Ch.refl (fun _ => False) _).alloc _) (fun e => e)

def CopyPost (w : World) (ws : List Int) (e : Ending) (w' : World) : Prop :=
  ∃ b g c, e = .returned (.pointer (some ⟨b, 0, none⟩)) ∧ MemAt w' b g c ws ∧ w.heap.size ≤ b ∧ w.heap.size ≤ g ∧ Below w.heap.size w w'
theorem mcopy_ok (b g c : Nat) (ws : List Int) (w : World) (h : MemAt w b g c ws) :
    Calls Try.prog 44 #[.pointer (some ⟨b, 0, none⟩)] w (CopyPost w ws) := by
  have hs := h.slice
  have hm0 := h
  have hp : Rd (fun _ => True) w (some ⟨g, 0, none⟩) (u64s ws) := h.rd.mono (fun _ _ _ => trivial)
  have hhi := h.hi
  go_enter Try.func44, Try.ntmps44
  go_wp2_with (go_at_call 76; refine (mzero_ok b g c ws _ (h.below (by (repeat' (first | (with_reducible exact Below.refl _ _) | (with_reducible assumption) | (with_reducible refine Below.alloc ?_ ?_ _) | (with_reducible refine Below.drew ?_) | (with_reducible refine below_drewN ?_ _) | (with_reducible refine Below.setCell ?_ ?_ _) | (with_reducible refine Below.trans ?_ (Below.mono (by assumption) ?_)) | (first | go_size | (with_reducible exact Below.size (by assumption)) | (with_reducible exact Nat.le_trans (Below.size (by assumption)) (Below.size (by assumption))) | (refine Nat.le_trans (Below.size (by assumption)) ?_; go_size))))))).mono ?_; rintro e w' ⟨rfl, rfl⟩)
  refine (clone_any _ ws _ _ _ hp (fun e => by cases e) rfl (by omega)).mono ?_
  rintro e w1 ⟨v, rfl, hv, hb⟩
  obtain ⟨g', c', hg', rfl, hm⟩ := MemAt.new hv hm0.lo hm0.hi hm0.wf
  go_wp2
  go_ret
  exact ⟨_, g', c', rfl, hm, hb.size, hg', by (repeat' (first | (with_reducible exact Below.refl _ _) | (with_reducible assumption) | (with_reducible refine Below.alloc ?_ ?_ _) | (with_reducible refine Below.drew ?_) | (with_reducible refine below_drewN ?_ _) | (with_reducible refine Below.setCell ?_ ?_ _) | (with_reducible refine Below.trans ?_ (Below.mono (by assumption) ?_)) | (first | go_size | (with_reducible exact Below.size (by assumption)) | (with_reducible exact Nat.le_trans (Below.size (by assumption)) (Below.size (by assumption))) | (refine Nat.le_trans (Below.size (by assumption)) ?_; go_size))))⟩

theorem msame_ok (b g c b' g' c' : Nat) (ws xs : List Int) (w : World) (h : MemAt w b g c ws) (h' : MemAt w b' g' c' xs) :
    Calls Try.prog 50 #[.pointer (some ⟨b, 0, none⟩), .pointer (some ⟨b', 0, none⟩)] w fun e w' => e = .returned (.bool (eqB ws xs)) ∧ ∃ q, w' = w.drewN q := by
  have hs := h.slice
  have hs' := h'.slice
  have hp : Rd (fun _ => True) w (some ⟨g, 0, none⟩) (u64s ws) := h.rd.mono (fun _ _ _ => trivial)
  have hp' : Rd (fun _ => True) w (some ⟨g', 0, none⟩) (u64s xs) := h'.rd.mono (fun _ _ _ => trivial)
  have hh := h.hi
  have hh' := h'.hi
  have hc := h.cap
  have hc' := h'.cap
  go_enter Try.func50, Try.ntmps50
  go_wp2_with (go_quiet ((first | (go_at_call 76; first | (with_reducible refine quiet_left (mzero_ok b g c ws _ ?_)) | (with_reducible refine quiet_left (mzero_ok b' g' c' xs _ ?_))) | (go_at_call 80; refine quiet_any (equal_any _ _ ws xs _ _ _ _ _ ?_ ?_ rfl rfl ?_ ?_ ?_ ?_))) <;> first | omega | (exact h.below (by (repeat' (first | (with_reducible exact Below.refl _ _) | (with_reducible assumption) | (with_reducible refine Below.alloc ?_ ?_ _) | (with_reducible refine Below.drew ?_) | (with_reducible refine below_drewN ?_ _) | (with_reducible refine Below.setCell ?_ ?_ _) | (with_reducible refine Below.trans ?_ (Below.mono (by assumption) ?_)) | (first | go_size | (with_reducible exact Below.size (by assumption)) | (with_reducible exact Nat.le_trans (Below.size (by assumption)) (Below.size (by assumption))) | (refine Nat.le_trans (Below.size (by assumption)) ?_; go_size)))))) | (exact h'.below (by (repeat' (first | (with_reducible exact Below.refl _ _) | (with_reducible assumption) | (with_reducible refine Below.alloc ?_ ?_ _) | (with_reducible refine Below.drew ?_) | (with_reducible refine below_drewN ?_ _) | (with_reducible refine Below.setCell ?_ ?_ _) | (with_reducible refine Below.trans ?_ (Below.mono (by assumption) ?_)) | (first | go_size | (with_reducible exact Below.size (by assumption)) | (with_reducible exact Nat.le_trans (Below.size (by assumption)) (Below.size (by assumption))) | (refine Nat.le_trans (Below.size (by assumption)) ?_; go_size)))))) | exact hp.drewN _ | exact hp'.drewN _))
  go_ret
  exact ⟨rfl, ⟨_, rfl⟩⟩
end Go.Proofs.Ytmbofohdjdipdaa
