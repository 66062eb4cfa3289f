/-
  Contracts of the law's helpers over an arena: does, words, made.
-/
import Derived.Test.YtiahhpjkpdiibaaMem6
namespace Go.Proofs.Ytiahhpjkpdiibaa
open Go.RowKit

theorem acc_eql (a b c d a' b' c' d' : Int) (W : World) :
    (binOp .eql 30 (acc4 a b c d) (acc4 a' b' c' d')).run Try.prog W = .ok (.bool ((a == a') && (b == b') && (c == c') && (d == d'))) W := by
  by_cases h1 : a = a' <;> by_cases h2 : b = b' <;> by_cases h3 : c = c' <;> by_cases h4 : d = d' <;> (go_simp; try simp [*])
theorem does_any (b g c : Nat) (ws : List Int) (k i o x k' i' o' x' no : Int) (w : World) (h : MemAt w b g c ws) (hx : 0 ≤ x ∧ x ≤ 18446744073709551615) :
    Calls Try.prog 13 #[.pointer (some ⟨b, 0, none⟩), acc4 k i o x, acc4 k' i' o' x', .int .i64 no] w
      (MPost w b g c (doWs ws k i o x) (.bool (((doK ws k i == k') && (doI ws k i == i') && (doB ws k i == o') && (doA ws k i o x == x')) && doE ws k i == no))) := by
  cases h1 : ((doK ws k i == k') && (doI ws k i == i') && (doB ws k i == o') && (doA ws k i o x == x')) <;> cases h2 : (doE ws k i == no)
  all_goals
    have heq := fun W => acc_eql (doK ws k i) (doI ws k i) (doB ws k i) (doA ws k i o x) k' i' o' x' W
    rw [h1] at heq
    go_enter Try.func13, Try.ntmps13
    go_wp2_with (go_at_call 22; refine (do_any b g c ws _ _ _ _ _ (h.below (by (repeat' (first | (with_reducible exact Below.refl _ _) | (with_reducible assumption) | (with_reducible refine Below.alloc ?_ ?_ _) | (with_reducible refine Below.drew ?_) | (with_reducible refine below_drewN ?_ _) | (with_reducible refine Below.setCell ?_ ?_ _) | (with_reducible refine Below.trans ?_ (Below.mono (by assumption) ?_)) | (first | go_size | (with_reducible exact Below.size (by assumption)) | (with_reducible exact Nat.le_trans (Below.size (by assumption)) (Below.size (by assumption))) | (refine Nat.le_trans (Below.size (by assumption)) ?_; go_size)))))) hx).mono ?_; rintro e w1 ⟨rfl, hm, hc⟩; have hlt := h.lt.2; have hsz : w.heap.size + 2 ≤ w1.heap.size := (by have := hc.size; simp at this; omega); have q0 : ∀ O, (w1.alloc O).cell? ⟨w.heap.size + 1, 0, none⟩ = some (.int .i64 k') := (fun O => (Ch.of_below ((Below.refl _ w1).alloc (Nat.le_refl _) O) (fun _ => False)).keeps (hc.keeps (by go_cell) (by show ¬ (w.heap.size + 1 = g); omega)) (fun e => e)); have q1 : ∀ O, (w1.alloc O).cell? ⟨w.heap.size + 1, 1, none⟩ = some (.int .i64 i') := (fun O => (Ch.of_below ((Below.refl _ w1).alloc (Nat.le_refl _) O) (fun _ => False)).keeps (hc.keeps (by go_cell) (by show ¬ (w.heap.size + 1 = g); omega)) (fun e => e)); have q2 : ∀ O, (w1.alloc O).cell? ⟨w.heap.size + 1, 2, none⟩ = some (.int .u64 o') := (fun O => (Ch.of_below ((Below.refl _ w1).alloc (Nat.le_refl _) O) (fun _ => False)).keeps (hc.keeps (by go_cell) (by show ¬ (w.heap.size + 1 = g); omega)) (fun e => e)); have q3 : ∀ O, (w1.alloc O).cell? ⟨w.heap.size + 1, 3, none⟩ = some (.int .u64 x') := (fun O => (Ch.of_below ((Below.refl _ w1).alloc (Nat.le_refl _) O) (fun _ => False)).keeps (hc.keeps (by go_cell) (by show ¬ (w.heap.size + 1 = g); omega)) (fun e => e)))
    go_ret
    exact mpost rfl hm hc (by (repeat' (first | (with_reducible exact Below.refl _ _) | (with_reducible assumption) | (with_reducible refine Below.alloc ?_ ?_ _) | (with_reducible refine Below.drew ?_) | (with_reducible refine below_drewN ?_ _) | (with_reducible refine Below.setCell ?_ ?_ _) | (with_reducible refine Below.trans ?_ (Below.mono (by assumption) ?_)) | (first | go_size | (with_reducible exact Below.size (by assumption)) | (with_reducible exact Nat.le_trans (Below.size (by assumption)) (Below.size (by assumption))) | (refine Nat.le_trans (Below.size (by assumption)) ?_; go_size))))) (by (repeat' (first | (with_reducible exact Below.refl _ _) | (with_reducible assumption) | (with_reducible refine Below.alloc ?_ ?_ _) | (with_reducible refine Below.drew ?_) | (with_reducible refine below_drewN ?_ _) | (with_reducible refine Below.setCell ?_ ?_ _) | (with_reducible refine Below.trans ?_ (Below.mono (by assumption) ?_)) | (first | go_size | (with_reducible exact Below.size (by assumption)) | (with_reducible exact Nat.le_trans (Below.size (by assumption)) (Below.size (by assumption))) | (refine Nat.le_trans (Below.size (by assumption)) ?_; go_size)))))

theorem words_ok (b g c : Nat) (ws : List Int) (f t : Nat) (ys : List Int) (A : Option Addr) (xs : List Int) (n d : Nat) (no : Int) (w : World) (h : MemAt w b g c ws) (hft : f ≤ t) (ht : t ≤ ws.length)
    (hy : (ws.drop f).take (t - f) = ys) (hx : Rd (fun _ => True) w A (u64s xs)) (hl : xs.length = n) (hn : n ≤ 100000) (hd : n ≤ d) :
    Calls Try.prog 16 #[.pointer (some ⟨b, 0, none⟩), .int .i64 f, .int .i64 t, .slice A n d, .int .i64 no] w fun e w' => e = .returned (.bool (eqB ys xs && (0 == no))) ∧ Below w.heap.size w w' := by
  have hhi := h.hi
  have hm0 := h
  have hyl : ys.length ≤ 100000 := by rw [← hy]; simp; omega
  have hmw := fun W hW => mwords_ok b g c ws f t W hW hft ht
  simp only [hy] at hmw
  cases h1 : eqB ys xs <;> cases h2 : ((0 : Int) == no)
  all_goals
    go_enter Try.func16, Try.ntmps16
    go_wp2_with (go_at_call 24; refine (hmw _ (hm0.below (by (repeat' (first | (with_reducible exact Below.refl _ _) | (with_reducible assumption) | (with_reducible refine Below.alloc ?_ ?_ _) | (with_reducible refine Below.drew ?_) | (with_reducible refine below_drewN ?_ _) | (with_reducible refine Below.setCell ?_ ?_ _) | (with_reducible refine Below.trans ?_ (Below.mono (by assumption) ?_)) | (first | go_size | (with_reducible exact Below.size (by assumption)) | (with_reducible exact Nat.le_trans (Below.size (by assumption)) (Below.size (by assumption))) | (refine Nat.le_trans (Below.size (by assumption)) ?_; go_size))))))).mono ?_; rintro e w1 ⟨v, rfl, hv, hb⟩; obtain ⟨A1, c1, rfl, hc1, _⟩ := own_slice hv)
    refine (rsame_any A1 A ys xs _ n c1 d w1 ((Rd.of_own hv).mono (fun _ _ _ => trivial)) (hx.keep (Ch.of_below hb (fun _ => False)) (fun _ _ _ e => e)) rfl hl hyl hn hc1 hd).mono ?_
    rw [h1]
    rintro e w2 ⟨rfl, q, rfl⟩
    go_wp2
    go_ret
    exact ⟨rfl, by (repeat' (first | (with_reducible exact Below.refl _ _) | (with_reducible assumption) | (with_reducible refine Below.alloc ?_ ?_ _) | (with_reducible refine Below.drew ?_) | (with_reducible refine below_drewN ?_ _) | (with_reducible refine Below.setCell ?_ ?_ _) | (with_reducible refine Below.trans ?_ (Below.mono (by assumption) ?_)) | (first | go_size | (with_reducible exact Below.size (by assumption)) | (with_reducible exact Nat.le_trans (Below.size (by assumption)) (Below.size (by assumption))) | (refine Nat.le_trans (Below.size (by assumption)) ?_; go_size))))⟩

theorem words_bad (b g c : Nat) (ws : List Int) (f t : Int) (w : World) (h : MemAt w b g c ws) (hft : f < 0 ∨ t < f ∨ (ws.length : Int) < t) :
    Calls Try.prog 16 #[.pointer (some ⟨b, 0, none⟩), .int .i64 f, .int .i64 t, .slice none 0 0, .int .i64 3] w fun e w' => e = .returned (.bool true) ∧ Below w.heap.size w w' := by
  have hm0 := h
  go_enter Try.func16, Try.ntmps16
  go_wp2_with (go_at_call 24; refine (mwords_bad b g c ws f t _ (hm0.below (by (repeat' (first | (with_reducible exact Below.refl _ _) | (with_reducible assumption) | (with_reducible refine Below.alloc ?_ ?_ _) | (with_reducible refine Below.drew ?_) | (with_reducible refine below_drewN ?_ _) | (with_reducible refine Below.setCell ?_ ?_ _) | (with_reducible refine Below.trans ?_ (Below.mono (by assumption) ?_)) | (first | go_size | (with_reducible exact Below.size (by assumption)) | (with_reducible exact Nat.le_trans (Below.size (by assumption)) (Below.size (by assumption))) | (refine Nat.le_trans (Below.size (by assumption)) ?_; go_size)))))) hft).mono ?_; rintro e w1 ⟨rfl, rfl⟩)
  refine (rsame_any none none [] [] 0 0 0 0 _ (Rd.nil _ _ _) (Rd.nil _ _ _) rfl rfl (by omega) (by omega) (by omega) (by omega)).mono ?_
  rw [show eqB [] [] = true from rfl]
  rintro e w2 ⟨rfl, q, rfl⟩
  go_wp2
  go_ret
  exact ⟨rfl, by (repeat' (first | (with_reducible exact Below.refl _ _) | (with_reducible assumption) | (with_reducible refine Below.alloc ?_ ?_ _) | (with_reducible refine Below.drew ?_) | (with_reducible refine below_drewN ?_ _) | (with_reducible refine Below.setCell ?_ ?_ _) | (with_reducible refine Below.trans ?_ (Below.mono (by assumption) ?_)) | (first | go_size | (with_reducible exact Below.size (by assumption)) | (with_reducible exact Nat.le_trans (Below.size (by assumption)) (Below.size (by assumption))) | (refine Nat.le_trans (Below.size (by assumption)) ?_; go_size))))⟩
end Go.Proofs.Ytiahhpjkpdiibaa
