/-
  Contracts of package mem, third part: the methods over Do, New, Len.
-/
import Derived.Test.YtmbofohdjdipdaaMem2
namespace Go.Proofs.Ytmbofohdjdipdaa
open Go.RowKit

theorem do_any (b g c : Nat) (ws : List Int) (k i bf af : Int) (w : World) (h : MemAt w b g c ws) (haf : 0 ≤ af ∧ af ≤ 18446744073709551615) :
    Calls Try.prog 58 #[.pointer (some ⟨b, 0, none⟩), acc4 k i bf af] w (DoPost w b g c ws k i bf af) := by
  by_cases hk : k < 1 ∨ 4 < k
  · exact do_bad b g c ws k i bf af w h hk
  · by_cases hi : i < 0 ∨ (ws.length : Int) ≤ i
    · exact do_range b g c ws k i bf af w h hk hi
    · obtain ⟨j, rfl⟩ : ∃ j : Nat, i = j := ⟨i.toNat, by omega⟩
      exact do_ok b g c ws k j bf af w h (by omega) (by omega) haf

def MPost (w : World) (b g c : Nat) (ws : List Int) (v : Value) (e : Ending) (w' : World) : Prop := e = .returned v ∧ MemAt w' b g c ws ∧ Ch (fun j => j = g) w w'
theorem mpost {w W w1 w' : World} {b g c : Nat} {ws ws' : List Int} {v : Value} (hw : ws' = ws) (hm : MemAt w1 b g c ws') (hc : Ch (fun j => j = g) W w1) (h0 : Below w.heap.size w W) (hb : Below w1.heap.size w1 w') :
    MPost w b g c ws v (.returned v) w' := by
  subst hw
  exact ⟨rfl, hm.below hb, ((Ch.of_below h0 _).trans hc (fun _ _ e => e)).trans (Ch.of_below hb (fun j => j = g)) (fun _ _ e => e)⟩

theorem mload_any (b g c : Nat) (ws : List Int) (i : Int) (w : World) (h : MemAt w b g c ws) :
    Calls Try.prog 51 #[.pointer (some ⟨b, 0, none⟩), .int .i64 i] w (MPost w b g c ws (.tuple #[.int .u64 (doB ws 1 i), .int .i64 (doE ws 1 i)])) := by
  have hw1 : Hid (doWs ws 1 i 0 0 = ws) := (show _ = _ by unfold doWs; rw [if_neg (by omega)])
  go_enter Try.func51, Try.ntmps51
  go_wp2_with ((go_at_call 58; refine (do_any b g c ws _ _ _ _ _ (h.below (by (repeat' (first | (with_reducible exact Below.refl _ _) | (with_reducible assumption) | (with_reducible refine Below.alloc ?_ ?_ _) | (with_reducible refine Below.drew ?_) | (with_reducible refine below_drewN ?_ _) | (with_reducible refine Below.setCell ?_ ?_ _) | (with_reducible refine Below.trans ?_ (Below.mono (by assumption) ?_)) | (first | go_size | (with_reducible exact Below.size (by assumption)) | (with_reducible exact Nat.le_trans (Below.size (by assumption)) (Below.size (by assumption))) | (refine Nat.le_trans (Below.size (by assumption)) ?_; go_size)))))) (by omega)).mono ?_; rintro e w1 ⟨rfl, hm, hc⟩))
  go_ret2
  exact mpost hw1.out hm hc (by (repeat' (first | (with_reducible exact Below.refl _ _) | (with_reducible assumption) | (with_reducible refine Below.alloc ?_ ?_ _) | (with_reducible refine Below.drew ?_) | (with_reducible refine below_drewN ?_ _) | (with_reducible refine Below.setCell ?_ ?_ _) | (with_reducible refine Below.trans ?_ (Below.mono (by assumption) ?_)) | (first | go_size | (with_reducible exact Below.size (by assumption)) | (with_reducible exact Nat.le_trans (Below.size (by assumption)) (Below.size (by assumption))) | (refine Nat.le_trans (Below.size (by assumption)) ?_; go_size))))) (by (repeat' (first | (with_reducible exact Below.refl _ _) | (with_reducible assumption) | (with_reducible refine Below.alloc ?_ ?_ _) | (with_reducible refine Below.drew ?_) | (with_reducible refine below_drewN ?_ _) | (with_reducible refine Below.setCell ?_ ?_ _) | (with_reducible refine Below.trans ?_ (Below.mono (by assumption) ?_)) | (first | go_size | (with_reducible exact Below.size (by assumption)) | (with_reducible exact Nat.le_trans (Below.size (by assumption)) (Below.size (by assumption))) | (refine Nat.le_trans (Below.size (by assumption)) ?_; go_size)))))

theorem mstore_any (b g c : Nat) (ws : List Int) (i x : Int) (w : World) (h : MemAt w b g c ws) (hx : 0 ≤ x ∧ x ≤ 18446744073709551615) :
    Calls Try.prog 13 #[.pointer (some ⟨b, 0, none⟩), .int .i64 i, .int .u64 x] w (MPost w b g c (doWs ws 2 i 0 x) (.int .i64 (doE ws 2 i))) := by
  go_enter Try.func13, Try.ntmps13
  go_wp2_with ((go_at_call 58; refine (do_any b g c ws _ _ _ _ _ (h.below (by (repeat' (first | (with_reducible exact Below.refl _ _) | (with_reducible assumption) | (with_reducible refine Below.alloc ?_ ?_ _) | (with_reducible refine Below.drew ?_) | (with_reducible refine below_drewN ?_ _) | (with_reducible refine Below.setCell ?_ ?_ _) | (with_reducible refine Below.trans ?_ (Below.mono (by assumption) ?_)) | (first | go_size | (with_reducible exact Below.size (by assumption)) | (with_reducible exact Nat.le_trans (Below.size (by assumption)) (Below.size (by assumption))) | (refine Nat.le_trans (Below.size (by assumption)) ?_; go_size)))))) (by omega)).mono ?_; rintro e w1 ⟨rfl, hm, hc⟩))
  go_ret
  exact mpost rfl hm hc (by (repeat' (first | (with_reducible exact Below.refl _ _) | (with_reducible assumption) | (with_reducible refine Below.alloc ?_ ?_ _) | (with_reducible refine Below.drew ?_) | (with_reducible refine below_drewN ?_ _) | (with_reducible refine Below.setCell ?_ ?_ _) | (with_reducible refine Below.trans ?_ (Below.mono (by assumption) ?_)) | (first | go_size | (with_reducible exact Below.size (by assumption)) | (with_reducible exact Nat.le_trans (Below.size (by assumption)) (Below.size (by assumption))) | (refine Nat.le_trans (Below.size (by assumption)) ?_; go_size))))) (by (repeat' (first | (with_reducible exact Below.refl _ _) | (with_reducible assumption) | (with_reducible refine Below.alloc ?_ ?_ _) | (with_reducible refine Below.drew ?_) | (with_reducible refine below_drewN ?_ _) | (with_reducible refine Below.setCell ?_ ?_ _) | (with_reducible refine Below.trans ?_ (Below.mono (by assumption) ?_)) | (first | go_size | (with_reducible exact Below.size (by assumption)) | (with_reducible exact Nat.le_trans (Below.size (by assumption)) (Below.size (by assumption))) | (refine Nat.le_trans (Below.size (by assumption)) ?_; go_size)))))

theorem mswap_any (b g c : Nat) (ws : List Int) (i x : Int) (w : World) (h : MemAt w b g c ws) (hx : 0 ≤ x ∧ x ≤ 18446744073709551615) :
    Calls Try.prog 100 #[.pointer (some ⟨b, 0, none⟩), .int .i64 i, .int .u64 x] w (MPost w b g c (doWs ws 4 i 0 x) (.tuple #[.int .u64 (doB ws 4 i), .int .i64 (doE ws 4 i)])) := by
  go_enter Try.func100, Try.ntmps100
  go_wp2_with ((go_at_call 58; refine (do_any b g c ws _ _ _ _ _ (h.below (by (repeat' (first | (with_reducible exact Below.refl _ _) | (with_reducible assumption) | (with_reducible refine Below.alloc ?_ ?_ _) | (with_reducible refine Below.drew ?_) | (with_reducible refine below_drewN ?_ _) | (with_reducible refine Below.setCell ?_ ?_ _) | (with_reducible refine Below.trans ?_ (Below.mono (by assumption) ?_)) | (first | go_size | (with_reducible exact Below.size (by assumption)) | (with_reducible exact Nat.le_trans (Below.size (by assumption)) (Below.size (by assumption))) | (refine Nat.le_trans (Below.size (by assumption)) ?_; go_size)))))) (by omega)).mono ?_; rintro e w1 ⟨rfl, hm, hc⟩))
  go_ret2
  exact mpost rfl hm hc (by (repeat' (first | (with_reducible exact Below.refl _ _) | (with_reducible assumption) | (with_reducible refine Below.alloc ?_ ?_ _) | (with_reducible refine Below.drew ?_) | (with_reducible refine below_drewN ?_ _) | (with_reducible refine Below.setCell ?_ ?_ _) | (with_reducible refine Below.trans ?_ (Below.mono (by assumption) ?_)) | (first | go_size | (with_reducible exact Below.size (by assumption)) | (with_reducible exact Nat.le_trans (Below.size (by assumption)) (Below.size (by assumption))) | (refine Nat.le_trans (Below.size (by assumption)) ?_; go_size))))) (by (repeat' (first | (with_reducible exact Below.refl _ _) | (with_reducible assumption) | (with_reducible refine Below.alloc ?_ ?_ _) | (with_reducible refine Below.drew ?_) | (with_reducible refine below_drewN ?_ _) | (with_reducible refine Below.setCell ?_ ?_ _) | (with_reducible refine Below.trans ?_ (Below.mono (by assumption) ?_)) | (first | go_size | (with_reducible exact Below.size (by assumption)) | (with_reducible exact Nat.le_trans (Below.size (by assumption)) (Below.size (by assumption))) | (refine Nat.le_trans (Below.size (by assumption)) ?_; go_size)))))

theorem mcas_any (b g c : Nat) (ws : List Int) (i o x : Int) (w : World) (h : MemAt w b g c ws) (hx : 0 ≤ x ∧ x ≤ 18446744073709551615) :
    Calls Try.prog 99 #[.pointer (some ⟨b, 0, none⟩), .int .i64 i, .int .u64 o, .int .u64 x] w (MPost w b g c (doWs ws 3 i o x) (.tuple #[.bool (doE ws 3 i == 0 && doB ws 3 i == o), .int .i64 (doE ws 3 i)])) := by
  by_cases he : doE ws 3 i = 0
  · have H := Lib.hid he
    have hb : (doE ws 3 i == 0) = true := by rw [he]; rfl
    clear he
    go_enter Try.func99, Try.ntmps99
    go_wp2_with ((go_at_call 58; refine (do_any b g c ws _ _ _ _ _ (h.below (by (repeat' (first | (with_reducible exact Below.refl _ _) | (with_reducible assumption) | (with_reducible refine Below.alloc ?_ ?_ _) | (with_reducible refine Below.drew ?_) | (with_reducible refine below_drewN ?_ _) | (with_reducible refine Below.setCell ?_ ?_ _) | (with_reducible refine Below.trans ?_ (Below.mono (by assumption) ?_)) | (first | go_size | (with_reducible exact Below.size (by assumption)) | (with_reducible exact Nat.le_trans (Below.size (by assumption)) (Below.size (by assumption))) | (refine Nat.le_trans (Below.size (by assumption)) ?_; go_size)))))) (by omega)).mono ?_; rintro e w1 ⟨rfl, hm, hc⟩))
    go_ret2
    have this : ∀ w', Below w1.heap.size w1 w' → MPost w b g c (doWs ws 3 i o x) (Value.tuple #[Value.bool (doE ws 3 i == 0 && doB ws 3 i == o), Value.int IntKind.i64 (doE ws 3 i)]) (.returned (Value.tuple #[Value.bool (doE ws 3 i == 0 && doB ws 3 i == o), Value.int IntKind.i64 (doE ws 3 i)])) w' := fun w' hw => mpost rfl hm hc (by (repeat' (first | (with_reducible exact Below.refl _ _) | (with_reducible assumption) | (with_reducible refine Below.alloc ?_ ?_ _) | (with_reducible refine Below.drew ?_) | (with_reducible refine below_drewN ?_ _) | (with_reducible refine Below.setCell ?_ ?_ _) | (with_reducible refine Below.trans ?_ (Below.mono (by assumption) ?_)) | (first | go_size | (with_reducible exact Below.size (by assumption)) | (with_reducible exact Nat.le_trans (Below.size (by assumption)) (Below.size (by assumption))) | (refine Nat.le_trans (Below.size (by assumption)) ?_; go_size))))) hw
    rw [hb] at this ⊢
    rw [H.out] at this ⊢
    exact this _ (by (repeat' (first | (with_reducible exact Below.refl _ _) | (with_reducible assumption) | (with_reducible refine Below.alloc ?_ ?_ _) | (with_reducible refine Below.drew ?_) | (with_reducible refine below_drewN ?_ _) | (with_reducible refine Below.setCell ?_ ?_ _) | (with_reducible refine Below.trans ?_ (Below.mono (by assumption) ?_)) | (first | go_size | (with_reducible exact Below.size (by assumption)) | (with_reducible exact Nat.le_trans (Below.size (by assumption)) (Below.size (by assumption))) | (refine Nat.le_trans (Below.size (by assumption)) ?_; go_size)))))
  · have hb : (doE ws 3 i == 0) = false := by rw [beq_eq_false_iff_ne]; exact he
    clear he
    go_enter Try.func99, Try.ntmps99
    go_wp2_with ((go_at_call 58; refine (do_any b g c ws _ _ _ _ _ (h.below (by (repeat' (first | (with_reducible exact Below.refl _ _) | (with_reducible assumption) | (with_reducible refine Below.alloc ?_ ?_ _) | (with_reducible refine Below.drew ?_) | (with_reducible refine below_drewN ?_ _) | (with_reducible refine Below.setCell ?_ ?_ _) | (with_reducible refine Below.trans ?_ (Below.mono (by assumption) ?_)) | (first | go_size | (with_reducible exact Below.size (by assumption)) | (with_reducible exact Nat.le_trans (Below.size (by assumption)) (Below.size (by assumption))) | (refine Nat.le_trans (Below.size (by assumption)) ?_; go_size)))))) (by omega)).mono ?_; rintro e w1 ⟨rfl, hm, hc⟩))
    go_ret2
    have this : ∀ w', Below w1.heap.size w1 w' → MPost w b g c (doWs ws 3 i o x) (Value.tuple #[Value.bool (doE ws 3 i == 0 && doB ws 3 i == o), Value.int IntKind.i64 (doE ws 3 i)]) (.returned (Value.tuple #[Value.bool (doE ws 3 i == 0 && doB ws 3 i == o), Value.int IntKind.i64 (doE ws 3 i)])) w' := fun w' hw => mpost rfl hm hc (by (repeat' (first | (with_reducible exact Below.refl _ _) | (with_reducible assumption) | (with_reducible refine Below.alloc ?_ ?_ _) | (with_reducible refine Below.drew ?_) | (with_reducible refine below_drewN ?_ _) | (with_reducible refine Below.setCell ?_ ?_ _) | (with_reducible refine Below.trans ?_ (Below.mono (by assumption) ?_)) | (first | go_size | (with_reducible exact Below.size (by assumption)) | (with_reducible exact Nat.le_trans (Below.size (by assumption)) (Below.size (by assumption))) | (refine Nat.le_trans (Below.size (by assumption)) ?_; go_size))))) hw
    rw [hb] at this ⊢
    exact this _ (by (repeat' (first | (with_reducible exact Below.refl _ _) | (with_reducible assumption) | (with_reducible refine Below.alloc ?_ ?_ _) | (with_reducible refine Below.drew ?_) | (with_reducible refine below_drewN ?_ _) | (with_reducible refine Below.setCell ?_ ?_ _) | (with_reducible refine Below.trans ?_ (Below.mono (by assumption) ?_)) | (first | go_size | (with_reducible exact Below.size (by assumption)) | (with_reducible exact Nat.le_trans (Below.size (by assumption)) (Below.size (by assumption))) | (refine Nat.le_trans (Below.size (by assumption)) ?_; go_size)))))

theorem mlen_any (b g c : Nat) (ws : List Int) (w : World) (h : MemAt w b g c ws) :
    Calls Try.prog 67 #[.pointer (some ⟨b, 0, none⟩)] w fun e w' => e = .returned (.int .i64 ws.length) ∧ w = w' := by
  have hs := h.slice
  go_enter Try.func67, Try.ntmps67
  go_wp2_with (go_at_call 76; refine (mzero_ok b g c ws _ (h.below (by (repeat' (first | (with_reducible exact Below.refl _ _) | (with_reducible assumption) | (with_reducible refine Below.alloc ?_ ?_ _) | (with_reducible refine Below.drew ?_) | (with_reducible refine below_drewN ?_ _) | (with_reducible refine Below.setCell ?_ ?_ _) | (with_reducible refine Below.trans ?_ (Below.mono (by assumption) ?_)) | (first | go_size | (with_reducible exact Below.size (by assumption)) | (with_reducible exact Nat.le_trans (Below.size (by assumption)) (Below.size (by assumption))) | (refine Nat.le_trans (Below.size (by assumption)) ?_; go_size))))))).mono ?_; rintro e w' ⟨rfl, rfl⟩)
  go_ret
  exact ⟨rfl, rfl⟩

theorem mnew_bad (n : Int) (w : World) (h : n < 1 ∨ 65536 < n) :
    Calls Try.prog 57 #[.int .i64 n] w fun e w' => e = .returned (.tuple #[.pointer none, .int .i64 2]) ∧ w = w' := by
  rcases h with h | h
  all_goals
    go_enter Try.func57, Try.ntmps57
    go_wp2
    go_ret2
    exact ⟨rfl, rfl⟩
theorem madeCells_one (z : Value) (n : Nat) : madeCells #[z] n = (List.replicate n z).toArray := by
  apply Array.ext
  · simp [madeCells]
  · intro i h1 h2
    simp [madeCells, Nat.mod_one]
theorem u64Info : (Try.prog.info? 33).map (fun i => (i.zero, i.size, i.bytes)) = some (some (.int .u64 0), 1, 8) := by kernel_rfl
theorem make_u64 (n : Nat) (hn : n ≤ 100000) (w : World) :
    (Instr.makeSlice 22 (.int .i64 (n : Int)) (.int .i64 (n : Int))).run Try.prog w = .ok (.slice (some ⟨w.heap.size, 0, none⟩) n n) (w.alloc (.cells (u64s (List.replicate n 0)).toArray 33)) := by
  obtain ⟨i0, hi0, hz0, hz1, hz2⟩ := info_parts u64Info
  have hr := run_make (P := Try.prog) w 22 33 i0 _ Try.underlying22 hi0 hz0 .i64 .i64 n n (by omega) (by omega) (by rw [hz2]; omega) (by omega)
  rw [hz1] at hr
  simp only [Int.toNat_natCast, Nat.mul_one] at hr
  rw [show (Value.int .u64 0).cells = #[.int .u64 0] from rfl, madeCells_one] at hr
  rw [hr]
  simp [u64s]
def NewPost (w : World) (n : Nat) (ws : List Int) (e : Ending) (w' : World) : Prop :=
  ∃ b g, e = .returned (.tuple #[.pointer (some ⟨b, 0, none⟩), .int .i64 0]) ∧ MemAt w' b g n ws ∧ w.heap.size ≤ b ∧ w.heap.size ≤ g ∧ Below w.heap.size w w'
theorem mnew_ok (n : Nat) (w : World) (h : 1 ≤ n) (h2 : n ≤ 65536) :
    Calls Try.prog 57 #[.int .i64 n] w (NewPost w n (List.replicate n 0)) := by
  have h3 : ¬ ((n : Int) < 1) := by omega
  have h4 : ¬ ((65536 : Int) < n) := by omega
  have hmk := make_u64 n (by omega)
  generalize hcs : (u64s (List.replicate n 0)).toArray = cs at hmk
  go_enter Try.func57, Try.ntmps57
  go_wp2
  go_ret2
  subst hcs
  refine ⟨_, w.heap.size, rfl, ⟨?_, ⟨[], ?_⟩, by simpa using h, by simpa using h2, by simp, by omega, fun x hx => ?_⟩, by omega, Nat.le_refl _, by (repeat' (first | (with_reducible exact Below.refl _ _) | (with_reducible assumption) | (with_reducible refine Below.alloc ?_ ?_ _) | (with_reducible refine Below.drew ?_) | (with_reducible refine below_drewN ?_ _) | (with_reducible refine Below.setCell ?_ ?_ _) | (with_reducible refine Below.trans ?_ (Below.mono (by assumption) ?_)) | (first | go_size | (with_reducible exact Below.size (by assumption)) | (with_reducible exact Nat.le_trans (Below.size (by assumption)) (Below.size (by assumption))) | (refine Nat.le_trans (Below.size (by assumption)) ?_; go_size))))⟩
  · have := Blk.new (w.alloc (.cells (u64s (List.replicate n 0)).toArray 33)) 158 [.slice (some ⟨w.heap.size, 0, none⟩) n n]
    rw [World.size_alloc] at this
    simpa only [List.length_replicate] using this
  · rw [List.append_nil]
    exact (Blk.new w 33 (u64s (List.replicate n 0))).keep ((Ch.refl (fun _ => False) _).alloc _) (fun e => e)
  · rw [List.eq_of_mem_replicate hx]
    omega
end Go.Proofs.Ytmbofohdjdipdaa
